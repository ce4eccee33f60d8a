/- TopOwner: for every input the law returns true, and the input reads as it did: the row, and the card that ties the listed tables to the program's text. -/
import Derived.Test.YtojkpoikamcgkaaDoorOwnLw
import Derived.Test.YtojkpoikamcgkaaDoorRows
import Derived.Test.YtojkpoikamcgkaaDoorCards
import Derived.Test.YtojkpoikamcgkaaDoorTie
import Derived.Lib.LaidU8
import Derived.Lay
import Derived.SevenTiedAt
import Derived.Stop.Joined
namespace Go.Proofs.YtojkpoikamcgkaaDoor
open Go.RowKit Go.ChangeShapes Go.WideShapes Go.ChangeAt
set_option linter.unusedVariables false
set_option linter.unusedSimpArgs false

theorem own : ownKnob Tryd.prog.godebug = none := by kernel_rfl
theorem laidOut : laidOutB Tryd.prog = true := by kernel_rfl
/-- A listed table of integers, wherever it stands on the list. -/
theorem tabIs_of_reads {P : Program} {W : World} {name : String} {k : IntKind} {zs : List Int} {g : Nat} {t e : TypeId} {n : Nat}
    (hg : P.globalNamed name = some g) (hty : (P.globals[g]?).map (·.type) = some t) (ht : P.underlying t = some (.array n e)) (he : P.underlying e = some (.int k)) (hce : P.cellsOf e = 1) (hct : P.cellsOf t = n)
    (h : Lib.VarReads P W name (Lib.tabData k zs)) : Lib.TabIs P W name k zs := by
  obtain ⟨g', t', cs, fuel, p, hg', ht', hvar, hd⟩ := h
  obtain rfl := Option.some.inj (hg.symm.trans hg')
  obtain rfl := Option.some.inj (hty.symm.trans ht')
  unfold Lib.TabIs
  rw [hvar, ← Lib.cells_of_tab ht he hce hct hd]
theorem hexV_at : ∀ i, i < 16 → ([48, 49, 50, 51, 52, 53, 54, 55, 56, 57, 97, 98, 99, 100, 101, 102] : List Int).getD i 0 = ((hexC i).toNat : Int) := by decide
theorem tabs_of_laid {W : World} (h : laidMetH Tryd.prog Rows.topOwnerRow.laid W) : Tabs W := by
  rw [MakeChecks.laidMetH_plain _ _ _ (by kernel_rfl)] at h
  have hx : Lib.TabIs Tryd.prog W "foyer/digest.hex" .u8 [48, 49, 50, 51, 52, 53, 54, 55, 56, 57, 97, 98, 99, 100, 101, 102] :=
    tabIs_of_reads (g := 0) (by kernel_rfl) (t := 108) (by kernel_rfl) Tryd.underlying108 Tryd.underlying5 (by kernel_rfl) (by kernel_rfl) (Lib.laidMet.reads h (.tail _ (.tail _ (.tail _ (.tail _ (.head _))))))
  have hp : Lib.TabIs Tryd.prog W "internal/strconv.uint64pow10" .u64 Lib.pow10Tab :=
    tabIs_of_reads (g := 2) (by kernel_rfl) (t := 123) (by kernel_rfl) Tryd.underlying123 Tryd.underlying85 (by kernel_rfl) (by kernel_rfl) (Lib.laidMet.reads h (.tail _ (.tail _ (.head _))))
  refine ⟨⟨?_, fun i hi => ?_⟩, hp⟩
  · exact World.block_lt_of_cell? W (a := ⟨0, 0, none⟩) (hx.cell (g := 0) (by kernel_rfl) 0 (by decide))
  · rw [hx.cell (g := 0) (by kernel_rfl) i hi, hexV_at i hi]
/-- THE LAW's STEP, where the row lists variables. -/
theorem law_liftedL {C : Checked} {os : Os} {H : Type} {enc : TypeId × Value → H} {f : FuncId} {fn : Func} {s : ChangeSpec} {tb : TypeId} {laid : List (String × DataW Unit)}
    (own : ownKnob C.prog.godebug = none) (started : os.Started) (noInit : C.prog.inits.idxOf? f = none) (hfn : C.prog.funcs[f]? = some fn)
    (hv : s.vars = []) (hs : ∀ ds : List (DataW H), ds.length = fn.params.size → s.fn H ds = { results := [.lit (.bool true)], args := ds })
    (hres : fn.resultTypes = #[tb]) (htb : C.prog.underlying tb = some .bool) (hl : laidOutB C.prog = true) (hr : ∀ t ∈ fn.params.toList, C.prog.readableRec t = true ∧ t < C.prog.types.size)
    (witness : ∃ (w : World) (tape : Tape) (i : Input), w.os = os ∧ (w.forCall tape i).Shaped C.prog ∧ i.vars = [] ∧ Input.okWide C.prog (w.forCall tape i) .any w.heap.size f i ∧
      ((s.pre enc C.prog fn [] false (w.forCall tape i).memory i.args ∧ laidMetH C.prog laid (w.forCall tape i).memory) ∧ sizedMet enc C.prog fn (OpenSpec.ofChange s) false (w.forCall tape i).memory i.args) ∧ ({} : Assume).holds C.prog (lone (Frame.enter C.prog f i.args .normal) [] (w.forCall tape i)))
    (walk : ∀ (W : World) (args : Array Value), laidMetH C.prog laid W → GotAll C.prog H enc W fn.params.toList args.toList → Calls C.prog f args W fun e W' => e = .returned (.bool true) ∧ Below W.heap.size W W') :
    ReturnsInHanded {} C os f .any (fun w args => (s.pre enc C.prog fn [] false w args ∧ laidMetH C.prog laid w) ∧ sizedMet enc C.prog fn (OpenSpec.ofChange s) false w args) (s.post enc C.prog fn false true false false) := by
  refine returnsInHanded_of_change_and (X := fun w _ => laidMetH C.prog laid w) (fun _ _ _ hh h => h.of_heap hh) own started noInit hfn witness ?_
  intro W base args ds gs before hval hW _ _ hL _
  have hW' := hW
  obtain ⟨p, q, hA, hV, rfl, hfz, hnd⟩ := hW
  have hlen : ∀ {ts : List TypeId} {vs : List Value} {ds : List (DataW H)} {ps : List MemPlace}, DataW.TrodAll enc C.prog W 0 (fun _ => true) true ts vs ds ps → ds.length = ts.length := by
    intro ts
    induction ts with
    | nil => intro vs ds ps h; obtain ⟨_, rfl, _⟩ := trodAll_nil h; rfl
    | cons t ts ih => intro vs ds ps h; obtain ⟨v, vs, d, ds, p, q, rfl, rfl, rfl, h1, h2⟩ := trodAll_cons h; simp [ih h2]
  have g := gotAll_of (base := base) hA (fun j t v ht hv' => hval j t v (by simpa using ht) (by simpa using hv'))
  refine (walk W args hL g).mono fun e W' ⟨he, hb⟩ => ⟨_, he, ?_⟩
  exact law_post hW' hv (hs ds (by rw [hlen hA]; simp)) hres htb hl hr hb

theorem opensI : Opens Tryd.prog 3 tInt := opens_int Tryd.underlying3 (by kernel_rfl)
theorem opensS : Opens Tryd.prog 9 tStr := opens_str Tryd.underlying9 (by kernel_rfl)
theorem opensSs : Opens Tryd.prog 25 (tSlice tStr) := opens_slice Tryd.underlying25 (by kernel_rfl) (by decide) opensS
theorem opensTr : Opens Tryd.prog 27 tTr := opens_struct Tryd.underlying27 (by kernel_rfl) (.cons rfl opensS (.one rfl opensSs))
theorem opensTrs : Opens Tryd.prog 22 (tSlice tTr) := opens_slice Tryd.underlying22 (by kernel_rfl) (by decide) opensTr
abbrev tTit : Ty (Int × Int × Int × ByteArray × List Tr) := tPair tInt (tPair tInt (tPair tInt (tPair tStr (tSlice tTr))))
theorem opensTit : Opens Tryd.prog 24 tTit := opens_struct Tryd.underlying24 (by kernel_rfl) (.cons rfl opensI (.cons rfl opensI (.cons rfl opensI (.cons rfl opensS (.one rfl opensTrs)))))

set_option maxRecDepth 100000 in
theorem topOwner_lifted (os : Os) (started : os.Started) (H : Type) (enc : TypeId × Value → H) :
    ReturnsInHanded {} Tryd.checked os 3 .any (fun w args => (Rows.topOwnerSpec.pre enc Tryd.prog Tryd.f3 [] false w args ∧ laidMetH Tryd.prog Rows.topOwnerRow.laid w) ∧ sizedMet enc Tryd.prog Tryd.f3 (OpenSpec.ofChange Rows.topOwnerSpec) false w args)
      (Rows.topOwnerSpec.post enc Tryd.prog Tryd.f3 false true false false) := by
  refine law_liftedL (C := Tryd.checked) (laid := Rows.topOwnerRow.laid) own started (by kernel_rfl) Tryd.func3 rfl (fun ds hds => ?_) (tb := 4) (by kernel_rfl) Tryd.underlying4 laidOut (fun t ht => ?_)
    (ChangeSpec.witness_shaped (enc := enc) (C := Tryd.checked) (os := os) (X := fun w _ => laidMetH Tryd.prog Rows.topOwnerRow.laid w) false (World.laidAll Tryd.prog os Rows.topOwnerRow.laid)
      #[.agg #[.int .i64 0, .int .i64 0, .int .i64 0, .string ⟨#[]⟩, .slice none 0 0], .agg #[.string ⟨#[]⟩, .slice none 0 0], .int .i64 0, .string ⟨#[]⟩] 8 (World.laidAll_os _ _ _)
      (World.shaped_of_ZipB (by kernel_rfl) (by kernel_rfl)) (by kernel_rfl) (by kernel_rfl) (by kernel_rfl)
      (by rw [MakeChecks.laidMetH_plain _ _ _ (by kernel_rfl)]; exact laidMet_laidAll _ (by kernel_rfl) (by kernel_rfl))) ?_
  · rw [Tryd.params3] at hds
    match ds, hds with
    | [_, _, _, _], _ => rfl
  · have := List.all_eq_true.1 (show (Tryd.f3.params.toList.all fun t => Tryd.prog.readableRec t && decide (t < Tryd.prog.types.size)) = true by kernel_rfl) t ht
    simp only [Bool.and_eq_true, decide_eq_true_eq] at this
    exact this
  · intro W args hL g
    rw [Tryd.params3] at g
    obtain ⟨v0, q0, e0, g0, h0⟩ := g.cons_inv
    obtain ⟨v1, q1, rfl, g1, h1⟩ := h0.cons_inv
    obtain ⟨v2, q2, rfl, g2, h2⟩ := h1.cons_inv
    obtain ⟨v3, q3, rfl, g3, h3⟩ := h2.cons_inv
    obtain rfl := h3.nil_inv
    obtain rfl : args = #[v0, v1, v2, v3] := by cases args; simp_all
    obtain ⟨cs, ⟨se, sh, pl, fi, ch⟩, rfl, r0⟩ := g0.agg Tryd.underlying24 opensTit
    obtain ⟨xs, ⟨tk, sg⟩, rfl, r1⟩ := g1.agg Tryd.underlying27 opensTr
    obtain ⟨sr, rfl, s7, s8⟩ := g2.int Tryd.underlying3 (by kernel_rfl)
    obtain ⟨fs, rfl, hfs⟩ := g3.str Tryd.underlying9 (by kernel_rfl)
    obtain ⟨a0, b0, k0, ⟨rfl, s1, s2⟩, a1, b1, rfl, ⟨rfl, s3, s4⟩, a2, b2, rfl, ⟨rfl, s5, s6⟩, a3, b3, rfl, ⟨rfl, hfi⟩, A, cap, rfl, hcap, hmax, hel⟩ := r0
    obtain ⟨c0, d0, k1, ⟨rfl, htk⟩, AX, cx, rfl, hcx, hmx, hex⟩ := r1
    obtain rfl : cs = #[.int .i64 se, .int .i64 sh, .int .i64 pl, .string fi, .slice A ch.length cap] := by cases cs; simp_all
    obtain rfl : xs = #[.string tk, .slice AX sg.length cx] := by cases xs; simp_all
    exact law_any se sh pl sr fi fs tk A AX ch cap sg cx W hel hex hcap hmax hcx hmx hfi hfs htk s1 s2 s3 s4 s5 s6 s7 s8 (tabs_of_laid hL)

theorem topOwner_row : Rows.TopOwnerSaid :=
  OpenClaim.holds_of_wide 3 Tryd.f3 rfl rfl rfl rfl rfl rfl rfl ⟨rfl, rfl, rfl, rfl, rfl⟩ rfl rfl rfl rfl rfl (by kernel_rfl) Tryd.func3 (by kernel_rfl)
    (of_decide_eq_true (by kernel_rfl)) (by unfold Func.isWrapper; first | (rw [if_pos (by decide +kernel)]; kernel_rfl) | (rw [if_neg (by decide +kernel)]; exact ⟨rfl, rfl⟩))
    (fun os started H enc _ => topOwner_lifted os started H enc)
theorem topOwner_holds : Rows.TopOwnerCardSaid :=
  Claim7.holds_tied_plain_at .later [] [.data, .data, .data, .data, .data, .pinned] true (true, "79a8fd2e93e116e24b83fdaa268f08c688c202f21129cfb156985646401255fa") false topOwner_row (fun _ h => by cases h) (by kernel_rfl) (fun _ h => by cases h) topOwner_row_tie rfl ⟨rfl, rfl⟩ (by kernel_rfl) rfl
    (fun f fn hf hfn => by
      obtain rfl : f = 3 := Option.some.inj ((show Tryd.prog.funcNamed "foyer/foyertop.TopOwner" = some 3 by kernel_rfl).symm.trans hf) |>.symm
      obtain rfl : fn = Tryd.f3 := (Option.some.inj (Tryd.func3.symm.trans hfn)).symm
      exact ⟨by kernel_rfl, fun j t ht => by
        rw [Tryd.params3] at ht
        have hm : t ∈ [24, 27, 3, 9] := by simpa using Array.mem_of_getElem? ht
        have hall : ([24, 27, 3, 9].all fun u => !Tryd.prog.wantsStandIn u) = true := by kernel_rfl
        exact (show Tryd.prog.wantsStandIn t = false by simpa using List.all_eq_true.1 hall t hm)⟩)
    (by kernel_rfl)
#print axioms topOwner_holds
end Go.Proofs.YtojkpoikamcgkaaDoor
