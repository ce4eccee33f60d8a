/- Layer 12 (resolve), the reference: the rule of an item, or its fault. -/
import Derived.Test.YtecjhniomjmocaaResRh
import Derived.Test.YtecjhniomjmocaaResJ
namespace Go.Proofs.Ytecjhniomjmocaa
open Go.RowKit Go.ChangeAt
set_option linter.unusedVariables false
set_option linter.unusedSimpArgs false
attribute [local go_sem] ext_cell ext_frozen lt_ext ext_drew lt_extN

/-- How the reference's rule of an item ends. -/
def ItemR (w : World) (L : Nm) (tw : Bool) (x : It) (e : Ending) (w' : World) : Prop :=
  Below w.heap.size w w' ∧ if (faultI L tw x).1 = 0 then
    ∃ A c, e = .returned (.tuple #[.agg (rlC x (.slice A (zonesI L x).length c)), .agg #[.int .i64 0, .int .i64 x.2.2.2.2.2.2, .int .i64 (-1)]]) ∧ OwnL tZn 42 w' 0 0 (.slice A (zonesI L x).length c) (zonesI L x)
  else e = .returned (.tuple #[.agg zeroC, .agg #[.int .i64 (faultI L tw x).1, .int .i64 x.2.2.2.2.2.2, .int .i64 (faultI L tw x).2]])
theorem item_bad {w w'' : World} {L : Nm} {x : It} {er ot : Int} {tw : Bool} (hf : faultI L tw x = (er, ot)) (hne : er ≠ 0) (hb : Below w.heap.size w w'') :
    ItemR w L tw x (.returned (.tuple #[.agg zeroC, .agg #[.int .i64 er, .int .i64 x.2.2.2.2.2.2, .int .i64 ot]])) w'' := by
  refine ⟨hb, ?_⟩
  rw [if_neg (by rw [hf]; exact hne), hf]
theorem item_good {w w'' : World} {L : Nm} {x : It} {A : Option Addr} {zs : List Zn} {c : Nat} {tw : Bool} (hf : faultI L tw x = (0, 0)) (hz : zonesI L x = zs) (hb : Below w.heap.size w w'') (h3 : OwnL tZn 42 w'' 0 0 (.slice A zs.length c) zs) :
    ItemR w L tw x (.returned (.tuple #[.agg (rlC x (.slice A zs.length c)), .agg #[.int .i64 0, .int .i64 x.2.2.2.2.2.2, .int .i64 (-1)]])) w'' := by
  subst hz
  refine ⟨hb, ?_⟩
  rw [if_pos (by rw [hf])]
  exact ⟨A, c, rfl, h3⟩
set_option maxRecDepth 100000 in
set_option maxHeartbeats 8000000 in
theorem ritem_any (L : Nm) (A : Option Addr) (its : List It) (cap i : Nat) (hn : ByteArray) (x y : Int) (AH : Option Addr) (lh : List Le) (ch : Nat) (w : World) (B : Nat) (h : Elems tIt w B A its) (hh : Elems tLe w B AH lh) (hB : B ≤ w.heap.size) (hi : i < its.length) (hil : its.length ≤ 210)
    (hfew : ∀ x ∈ its, x.2.2.1.length ≤ 12 ∧ ∀ l ∈ x.2.2.1, l.length ≤ 8) (hm1 : lh.length ≤ 10) (hm2 : ∀ l ∈ lh, l.2.2.1.length + l.2.2.2.1.length ≤ 50) (hL : (lvlsN lh, blksN lh) = L) (h1 : L.1.length ≤ 1000000) (h2 : L.2.length ≤ 1000000) (xx : It) (hx : its[i]? = some xx) :
    Calls Try.prog 30 #[.slice A its.length cap, .int .i64 i, .agg #[.string hn, .int .i64 x, .int .i64 y, .slice AH lh.length ch]] w (ItemR w L (twiceP its i xx) xx) := by
  obtain ⟨b, off, kd, nm, AW, ws, cw, n, rn, rd, sn, sd, att, rfl, hb, Hk, d0, d1, d2, d3, d4, d5, d6, d7, d8, g1, g2, g3, f1, f2, f3, f4, f5, f6, f7, g4⟩ := pick_it h hi
  obtain rfl := Option.some.inj (Hk.out.symm.trans hx)
  obtain ⟨hws, hws8⟩ := hfew _ (List.mem_of_getElem? hx)
  obtain ⟨tw, htw⟩ : ∃ t, twiceP its i (kd, nm, ws, n, (rn, rd), (sn, sd), att) = t := ⟨_, rfl⟩
  rw [htw]
  have htw' : ((its.take i).any fun y => decide (y.2.1 = nm)) = tw := htw
  have hE : ∀ X, Below w.heap.size w X → Elems tIt X B (some ⟨b, off, none⟩) its := fun X hX => h.keep (hX.mono hB) (Nat.le_refl _)
  have hEW : ∀ X, Below w.heap.size w X → Elems (tSlice tTs) X B AW ws := fun X hX => g3.out.keep (hX.mono hB) (Nat.le_refl _)
  have hT : ∀ (nm : ByteArray) (op : Int) (nn : ByteArray) (n att : Int) (X : World) (hX : Below w.heap.size w X), Calls Try.prog 39 #[.agg #[.string nm, .int .i64 op, .string nn, .int .i64 n, .int .i64 att], .agg #[.string hn, .int .i64 x, .int .i64 y, .slice AH lh.length ch]] X fun e w' => e = testE L (nm, op, nn, n, att) ∧ Below X.heap.size X w' := fun nm op nn n att X hX =>
    rtest_any nm op nn n att hn x y AH lh ch X B (hh.keep (hX.mono hB) (Nat.le_refl _)) (by have := hX.size; omega) hm1 hm2 L hL h1 h2
  have hZ : ∀ (A9 : Option Addr) (l : List Ts) (c9 : Nat) (X : World) (hX : Below w.heap.size w X) (hE : Elems tTs X B A9 l) (hb : badT L l = none) (hl : l.length ≤ 8), Calls Try.prog 40 #[.slice A9 l.length c9, .agg #[.string hn, .int .i64 x, .int .i64 y, .slice AH lh.length ch]] X fun e w' => ∃ A' c, e = .returned (.slice A' (zonesP L l).length c) ∧ (zonesP L l).length ≤ c ∧ c ≤ maxLen ∧ Elems tZn w' w'.heap.size A' (zonesP L l) ∧ Below X.heap.size X w' := fun A9 l c9 X hX hE hb hl =>
    rzones_any L A9 l c9 hn x y AH lh ch X B hE (hh.keep (hX.mono hB) (Nat.le_refl _)) (by have := hX.size; omega) hm1 hm2 hL h1 h2 hb hl
  have hR := rranges_any kd nm AW ws.length cw n rn rd sn sd att ws
  have HH := Lib.hid (And.intro hE (And.intro hEW (And.intro hT (And.intro hZ (And.intro htw' (And.intro hws8 (And.intro g4.out hR)))))))
  have hii : (i : Int) < (its.length : Int) := by omega
  have bw : b < w.heap.size := by omega
  clear h hh hm2 hL hE hEW hT hZ htw htw' hws8 g3 g4 Hk hfew hx hR
  go_enter Try.func30, Try.ntmps30
  go_upto_region 1 with (fail)
  refine forget (fun X => Below w.heap.size w X ∧ Bk X w.heap.size #[.string hn, .int .i64 x, .int .i64 y, .slice AH lh.length ch] 29 ∧ Bk X (w.heap.size + 1) zeroC 54 ∧ Bk X (w.heap.size + 1 + 1) #[.int .i64 0, .int .i64 0, .int .i64 0] 81 ∧ X.heap.size = w.heap.size + 1 + 1 + 1) ⟨by (repeat (first | with_reducible exact Below.refl _ _ | with_reducible assumption | with_reducible refine Below.alloc0 ?_ _ | with_reducible refine Below.ext0 ?_ _ | with_reducible refine Below.drew ?_ | with_reducible refine below_drewN ?_ _ | (with_reducible refine Below.setCell (hp := ?hp) ?_ _; case hp => (first | (simp; done) | (simp; omega))))), ((Bk.new w _ _).alloc _).alloc _, (bk_new_at _ _ _ _ (by simp)).alloc _, bk_new_at _ _ _ _ (by simp), by simp⟩ ?_
  rintro V ⟨hX, b0, b6, b7, hVs⟩
  have e0 := (hX.cell (p := ⟨b, off + i * 9, none⟩) bw).trans d0
  have e1 := (hX.cell (p := ⟨b, off + i * 9 + 1, none⟩) bw).trans d1
  have e2 := (hX.cell (p := ⟨b, off + i * 9 + 2, none⟩) bw).trans d2
  have e3 := (hX.cell (p := ⟨b, off + i * 9 + 3, none⟩) bw).trans d3
  have e4 := (hX.cell (p := ⟨b, off + i * 9 + 4, none⟩) bw).trans d4
  have e5 := (hX.cell (p := ⟨b, off + i * 9 + 5, none⟩) bw).trans d5
  have e6 := (hX.cell (p := ⟨b, off + i * 9 + 6, none⟩) bw).trans d6
  have e7 := (hX.cell (p := ⟨b, off + i * 9 + 7, none⟩) bw).trans d7
  have e8 := (hX.cell (p := ⟨b, off + i * 9 + 8, none⟩) bw).trans d8
  have bwV : b < V.heap.size := by omega
  have HV := Lib.hid (And.intro hX (And.intro b0 (And.intro b6 (And.intro b7 hVs))))
  clear hX b0 b6 b7 hVs d0 d1 d2 d3 d4 d5 d6 d7 d8
  go_upto_region 3 with (fail)
  refine forget (fun X => Below w.heap.size w X ∧ Bk X w.heap.size #[.string hn, .int .i64 x, .int .i64 y, .slice AH lh.length ch] 29 ∧ Bk X (w.heap.size + 1) zeroC 54 ∧ Bk X (w.heap.size + 1 + 1) #[.int .i64 0, .int .i64 0, .int .i64 0] 81 ∧ Bk X V.heap.size #[.int .i64 kd, .string nm, .slice AW ws.length cw, .int .i64 n, .int .i64 rn, .int .i64 rd, .int .i64 sn, .int .i64 sd, .int .i64 att] 57 ∧ Bk X (V.heap.size + 1) #[.int .i64 0, .int .i64 att, .int .i64 (-1)] 81) ⟨by have hw := HV.out.1; (repeat (first | with_reducible exact Below.refl _ _ | with_reducible assumption | with_reducible refine Below.alloc0 ?_ _ | with_reducible refine Below.ext0 ?_ _ | with_reducible refine Below.drew ?_ | with_reducible refine below_drewN ?_ _ | (with_reducible refine Below.setCell (hp := ?hp) ?_ _; case hp => (first | (simp; done) | (simp; omega))))), ((HV.out.2.1).alloc _).alloc _, ((HV.out.2.2.1).alloc _).alloc _, ((HV.out.2.2.2.1).alloc _).alloc _, (Bk.new V _ _).alloc _, bk_next V _ _ _⟩ ?_
  clear e0 e1 e2 e3 e4 e5 e6 e7 e8 bwV
  have hVs : w.heap.size + 1 + 1 < V.heap.size := by have := HV.out.2.2.2.2; omega
  generalize V.heap.size = vb at *
  rintro X ⟨hX, b0, b6, b7, b8, b9⟩
  have HX := Lib.hid (And.intro hX (And.intro b0 (And.intro b6 (And.intro b7 (And.intro b8 b9)))))
  have hXs := b9.lt
  clear hX b0 b6 b7 b8 b9 HV
  go_wp2_with fail
  go_loopw [10] (fun v wr => ∃ k : Nat, k ≤ i ∧ v = .int .i64 k ∧ ((its.take k).any fun y => decide (y.2.1 = nm)) = false ∧ Below X.heap.size X wr) (fun v _ => i - (intOf v).toNat)
  case atStart => exact ⟨0, by omega, rfl, rfl, Below.refl _ _⟩
  case round =>
    obtain ⟨k, hk, rfl, hany, hlow⟩ := hrel
    generalize wr = wA at *
    have hzA := hlow.size
    by_cases hlt : k < i
    · obtain ⟨b', off', kd', nm', AW', ws', cw', n', rn', rd', sn', sd', att', he', hb', Hk', d0', d1', d2', d3', d4', d5', d6', d7', d8', g1', g2', g3', f1', f2', f3', f4', f5', f6', f7', g4'⟩ := pick_it (HH.out.1 wA (Below.trans0 HX.out.1 hlow)) (show k < its.length by omega)
      simp only [Option.some.injEq, Addr.mk.injEq, and_true] at he'
      obtain ⟨rfl, rfl⟩ := he'
      have hkl : (k : Int) < (i : Int) := by omega
      have hkl2 : (k : Int) < (its.length : Int) := by omega
      have b8 := HX.out.2.2.2.2.1.below hlow
      have c1 : wA.cell? ⟨vb, 1, none⟩ = some (.string nm) := b8.cell 1
      have l8 := b8.lt
      have bwA : b < wA.heap.size := by omega
      have hat := any_take (fun y : It => decide (y.2.1 = nm)) Hk'.out
      rw [hany, Bool.false_or] at hat
      by_cases heq : nm' = nm
      · subst heq
        have htw : tw = true := by
          rw [← HH.out.2.2.2.2.1, List.any_eq_true]
          exact ⟨_, List.mem_of_getElem? (i := k) (by rw [List.getElem?_take_of_lt hlt]; exact Hk'.out), by simp⟩
        have HA := Lib.hid (And.intro hlow htw)
        have b9 := HX.out.2.2.2.2.2.below hlow
        have c90 : wA.cell? ⟨vb + 1, 0, none⟩ = some (.int .i64 0) := b9.cell 0
        have f90 := b9.free 0
        have l9 := b9.lt
        clear hlow hany hat g3' g4' htw b8 b9
        go_upto_region 6 with (fail)
        refine wp_region_ext wA (by kernel_rfl) (by kernel_rfl) ?_
        repeat (go_big_quiet_step (fail))
        refine wpQuiet_nil (fun v => ?_)
        go_upto_region 8 with (fail)
        refine forget (fun Y => Below w.heap.size w Y ∧ Bk Y (w.heap.size + 1) zeroC 54 ∧ Bk Y (w.heap.size + 1 + 1) #[.int .i64 0, .int .i64 0, .int .i64 0] 81 ∧ Bk Y (vb + 1) #[.int .i64 9, .int .i64 att, .int .i64 (-1)] 81) ⟨?_, ?_, ?_, ?_⟩ ?_
        · exact (Below.ext0 (Below.trans0 HX.out.1 HA.out.1) v).setCell (by simp; omega) _
        · exact ((HX.out.2.2.1.below HA.out.1).ext v).far (by simp; omega) _
        · exact ((HX.out.2.2.2.1.below HA.out.1).ext v).far (by simp; omega) _
        · exact ((HX.out.2.2.2.2.2.below HA.out.1).ext v).set_ 0 _
        rintro Y ⟨hY, b6, b7, b9⟩
        have x0 : Y.cell? ⟨vb + 1, 0, none⟩ = some (.int .i64 9) := b9.cell 0
        have x1 : Y.cell? ⟨vb + 1, 1, none⟩ = some (.int .i64 att) := b9.cell 1
        have x2 : Y.cell? ⟨vb + 1, 2, none⟩ = some (.int .i64 (-1)) := b9.cell 2
        have l9 := b9.lt
        have f6 := b6.free
        have l6 := b6.lt
        have f7 := b7.free
        have l7 := b7.lt
        have c6 : ∀ j, Y.cell? ⟨w.heap.size + 1, j, none⟩ = (#[.int .i64 0, .string ⟨#[]⟩, .slice none 0 0, .int .i64 0, .int .i64 0, .int .i64 0, .int .i64 0, .int .i64 0] : Array Value)[j]? := b6.cell
        have c7z := b7.cell
        have HY := Lib.hid hY
        clear hY b6 b7 b9
        go_region
        all_goals go_wp2_with fail
        all_goals
          refine bodyPost_ret (v := .tuple #[.agg #[.int .i64 0, .string ⟨#[]⟩, .slice none 0 0, .int .i64 0, .int .i64 0, .int .i64 0, .int .i64 0, .int .i64 0], .agg #[.int .i64 9, .int .i64 att, .int .i64 (-1)]]) (by simp [results, Try.results30, go_sem, l6, l7, c6, c7z]) rfl (item_bad (er := 9) (ot := (-1)) (by rw [HA.out.2]; rfl) (by first | decide | assumption) ?_)
          have hw := HY.out
          (repeat (first | with_reducible exact Below.refl _ _ | with_reducible assumption | with_reducible refine Below.alloc0 ?_ _ | with_reducible refine Below.ext0 ?_ _ | with_reducible refine Below.drew ?_ | with_reducible refine below_drewN ?_ _ | (with_reducible refine Below.setCell (hp := ?hp) ?_ _; case hp => (first | (simp; done) | (simp; omega)))))
      · have heq' : (nm'.toList == nm.toList) = false := by
          rw [ByteArray.toList_eq, ByteArray.toList_eq]
          refine Bool.eq_false_iff.2 fun h => heq ?_
          exact Go.WideShapes.bytes_inj (by simpa using h)
        have Hany := Lib.hid (show ((its.take (k + 1)).any fun y => decide (y.2.1 = nm)) = false by rw [hat]; simpa using heq)
        have HA := Lib.hid hlow
        clear hlow hany hat g3' g4' b8 heq
        go_wp2_with fail
        refine wp_region_ext wA (by kernel_rfl) (by kernel_rfl) ?_
        repeat (go_big_quiet_step (fail))
        refine wpQuiet_nil (fun v => ?_)
        go_wp2_with fail
        go_roundw
        case rel => exact ⟨k + 1, by omega, by go_num, Hany.out, HA.out.trans ((below_ext wA v).mono hzA)⟩
        case measure => simp [intOf]; omega
    · obtain rfl : k = i := by omega
      have htw : tw = false := by rw [← HH.out.2.2.2.2.1]; exact hany
      subst htw
      refine forget (fun V => Below X.heap.size X V) hlow ?_
      clear hlow hany hzA hi bw
      intro V hV
      have hVz := hV.size
      have b8 := HX.out.2.2.2.2.1.below hV
      have b9 := HX.out.2.2.2.2.2.below hV
      have y0 : V.cell? ⟨vb, 0, none⟩ = some (.int .i64 kd) := b8.cell 0
      have y1 : V.cell? ⟨vb, 1, none⟩ = some (.string nm) := b8.cell 1
      have y2 : V.cell? ⟨vb, 2, none⟩ = some (.slice AW ws.length cw) := b8.cell 2
      have y3 : V.cell? ⟨vb, 3, none⟩ = some (.int .i64 n) := b8.cell 3
      have y4 : V.cell? ⟨vb, 4, none⟩ = some (.int .i64 rn) := b8.cell 4
      have y5 : V.cell? ⟨vb, 5, none⟩ = some (.int .i64 rd) := b8.cell 5
      have y6 : V.cell? ⟨vb, 6, none⟩ = some (.int .i64 sn) := b8.cell 6
      have y7 : V.cell? ⟨vb, 7, none⟩ = some (.int .i64 sd) := b8.cell 7
      have y8 : V.cell? ⟨vb, 8, none⟩ = some (.int .i64 att) := b8.cell 8
      have y9 : V.cell? ⟨vb + 1, 0, none⟩ = some (.int .i64 0) := b9.cell 0
      have yf := b9.free 0
      have lv := b8.lt
      have lv1 := b9.lt
      have HW := Lib.hid (And.intro (Below.trans0 HX.out.1 hV) (And.intro (HX.out.2.1.below hV) (And.intro (HX.out.2.2.1.below hV) (And.intro (HX.out.2.2.2.1.below hV) (And.intro b8 b9)))))
      clear hV b8 b9 HX
      go_upto_region 9 with (fail)
      by_cases hk1 : kd < 1
      · go_upto_region 11 with (fail)
        refine forget (fun Y => Below w.heap.size w Y ∧ Bk Y (w.heap.size + 1) zeroC 54 ∧ Bk Y (w.heap.size + 1 + 1) #[.int .i64 0, .int .i64 0, .int .i64 0] 81 ∧ Bk Y (vb + 1) #[.int .i64 10, .int .i64 att, .int .i64 (-1)] 81) ⟨?_, ?_, ?_, ?_⟩ ?_
        · exact (HW.out.1).setCell (by simp; omega) _
        · exact (HW.out.2.2.1).far (by simp; omega) _
        · exact (HW.out.2.2.2.1).far (by simp; omega) _
        · exact (HW.out.2.2.2.2.2).set_ 0 _
        rintro Y ⟨hY, b6, b7, b9⟩
        have x0 : Y.cell? ⟨vb + 1, 0, none⟩ = some (.int .i64 10) := b9.cell 0
        have x1 : Y.cell? ⟨vb + 1, 1, none⟩ = some (.int .i64 att) := b9.cell 1
        have x2 : Y.cell? ⟨vb + 1, 2, none⟩ = some (.int .i64 (-1)) := b9.cell 2
        have l9 := b9.lt
        have f6 := b6.free
        have l6 := b6.lt
        have f7 := b7.free
        have l7 := b7.lt
        have c6 : ∀ j, Y.cell? ⟨w.heap.size + 1, j, none⟩ = (#[.int .i64 0, .string ⟨#[]⟩, .slice none 0 0, .int .i64 0, .int .i64 0, .int .i64 0, .int .i64 0, .int .i64 0] : Array Value)[j]? := b6.cell
        have c7z := b7.cell
        have HY := Lib.hid hY
        clear hY b6 b7 b9
        go_region
        all_goals go_wp2_with fail
        all_goals
          refine bodyPost_ret (v := .tuple #[.agg #[.int .i64 0, .string ⟨#[]⟩, .slice none 0 0, .int .i64 0, .int .i64 0, .int .i64 0, .int .i64 0, .int .i64 0], .agg #[.int .i64 10, .int .i64 att, .int .i64 (-1)]]) (by simp [results, Try.results30, go_sem, l6, l7, c6, c7z]) rfl (item_bad (er := 10) (ot := (-1)) (by unfold faultI; rw [if_neg (by decide), if_pos (Or.inl hk1)]) (by first | decide | assumption) ?_)
          have hw := HY.out
          (repeat (first | with_reducible exact Below.refl _ _ | with_reducible assumption | with_reducible refine Below.alloc0 ?_ _ | with_reducible refine Below.ext0 ?_ _ | with_reducible refine Below.drew ?_ | with_reducible refine below_drewN ?_ _ | (with_reducible refine Below.setCell (hp := ?hp) ?_ _; case hp => (first | (simp; done) | (simp; omega)))))
      by_cases hk7 : 7 < kd
      · go_upto_region 11 with (fail)
        refine forget (fun Y => Below w.heap.size w Y ∧ Bk Y (w.heap.size + 1) zeroC 54 ∧ Bk Y (w.heap.size + 1 + 1) #[.int .i64 0, .int .i64 0, .int .i64 0] 81 ∧ Bk Y (vb + 1) #[.int .i64 10, .int .i64 att, .int .i64 (-1)] 81) ⟨?_, ?_, ?_, ?_⟩ ?_
        · exact (HW.out.1).setCell (by simp; omega) _
        · exact (HW.out.2.2.1).far (by simp; omega) _
        · exact (HW.out.2.2.2.1).far (by simp; omega) _
        · exact (HW.out.2.2.2.2.2).set_ 0 _
        rintro Y ⟨hY, b6, b7, b9⟩
        have x0 : Y.cell? ⟨vb + 1, 0, none⟩ = some (.int .i64 10) := b9.cell 0
        have x1 : Y.cell? ⟨vb + 1, 1, none⟩ = some (.int .i64 att) := b9.cell 1
        have x2 : Y.cell? ⟨vb + 1, 2, none⟩ = some (.int .i64 (-1)) := b9.cell 2
        have l9 := b9.lt
        have f6 := b6.free
        have l6 := b6.lt
        have f7 := b7.free
        have l7 := b7.lt
        have c6 : ∀ j, Y.cell? ⟨w.heap.size + 1, j, none⟩ = (#[.int .i64 0, .string ⟨#[]⟩, .slice none 0 0, .int .i64 0, .int .i64 0, .int .i64 0, .int .i64 0, .int .i64 0] : Array Value)[j]? := b6.cell
        have c7z := b7.cell
        have HY := Lib.hid hY
        clear hY b6 b7 b9
        go_region
        all_goals go_wp2_with fail
        all_goals
          refine bodyPost_ret (v := .tuple #[.agg #[.int .i64 0, .string ⟨#[]⟩, .slice none 0 0, .int .i64 0, .int .i64 0, .int .i64 0, .int .i64 0, .int .i64 0], .agg #[.int .i64 10, .int .i64 att, .int .i64 (-1)]]) (by simp [results, Try.results30, go_sem, l6, l7, c6, c7z]) rfl (item_bad (er := 10) (ot := (-1)) (by unfold faultI; rw [if_neg (by decide), if_pos (Or.inr hk7)]) (by first | decide | assumption) ?_)
          have hw := HY.out
          (repeat (first | with_reducible exact Below.refl _ _ | with_reducible assumption | with_reducible refine Below.alloc0 ?_ _ | with_reducible refine Below.ext0 ?_ _ | with_reducible refine Below.drew ?_ | with_reducible refine below_drewN ?_ _ | (with_reducible refine Below.setCell (hp := ?hp) ?_ _; case hp => (first | (simp; done) | (simp; omega)))))
      obtain ⟨q, hq⟩ : ∃ q, inRangeP (kd, nm, ws, n, (rn, rd), (sn, sd), att) = q := ⟨_, rfl⟩
      have hRR := fun X => HH.out.2.2.2.2.2.2.2 X f1 f2 f3 f4 f5 f6
      rw [hq] at hRR
      have HR := Lib.hid hRR
      have Hq := Lib.hid hq
      clear hRR hq
      cases q
      · go_upto_region 14 with (go_at_call 38; refine (HR.out _).mono ?_; rintro e w' ⟨rfl, hb⟩; (first | (obtain ⟨u, rfl⟩ := ext_more hb; clear hb) | (obtain ⟨u, rfl⟩ := ext_more_alloc hb; clear hb) | (obtain ⟨u, rfl⟩ := ext_of hb; clear hb)))
        refine forget (fun Y => Below w.heap.size w Y ∧ Bk Y (w.heap.size + 1) zeroC 54 ∧ Bk Y (w.heap.size + 1 + 1) #[.int .i64 0, .int .i64 0, .int .i64 0] 81 ∧ Bk Y (vb + 1) #[.int .i64 2, .int .i64 att, .int .i64 (-1)] 81) ⟨?_, ?_, ?_, ?_⟩ ?_
        · exact (Below.ext0 HW.out.1 u).setCell (by simp; omega) _
        · exact (HW.out.2.2.1.ext u).far (by simp; omega) _
        · exact (HW.out.2.2.2.1.ext u).far (by simp; omega) _
        · exact (HW.out.2.2.2.2.2.ext u).set_ 0 _
        rintro Y ⟨hY, b6, b7, b9⟩
        have x0 : Y.cell? ⟨vb + 1, 0, none⟩ = some (.int .i64 2) := b9.cell 0
        have x1 : Y.cell? ⟨vb + 1, 1, none⟩ = some (.int .i64 att) := b9.cell 1
        have x2 : Y.cell? ⟨vb + 1, 2, none⟩ = some (.int .i64 (-1)) := b9.cell 2
        have l9 := b9.lt
        have f6 := b6.free
        have l6 := b6.lt
        have f7 := b7.free
        have l7 := b7.lt
        have c6 : ∀ j, Y.cell? ⟨w.heap.size + 1, j, none⟩ = (#[.int .i64 0, .string ⟨#[]⟩, .slice none 0 0, .int .i64 0, .int .i64 0, .int .i64 0, .int .i64 0, .int .i64 0] : Array Value)[j]? := b6.cell
        have c7z := b7.cell
        have HY := Lib.hid hY
        clear hY b6 b7 b9
        go_region
        all_goals go_wp2_with fail
        all_goals
          refine bodyPost_ret (v := .tuple #[.agg #[.int .i64 0, .string ⟨#[]⟩, .slice none 0 0, .int .i64 0, .int .i64 0, .int .i64 0, .int .i64 0, .int .i64 0], .agg #[.int .i64 2, .int .i64 att, .int .i64 (-1)]]) (by simp [results, Try.results30, go_sem, l6, l7, c6, c7z]) rfl (item_bad (er := 2) (ot := (-1)) (by unfold faultI; rw [if_neg (by decide), if_neg (by simp only; omega), if_pos Hq.out]) (by first | decide | assumption) ?_)
          have hw := HY.out
          (repeat (first | with_reducible exact Below.refl _ _ | with_reducible assumption | with_reducible refine Below.alloc0 ?_ _ | with_reducible refine Below.ext0 ?_ _ | with_reducible refine Below.drew ?_ | with_reducible refine below_drewN ?_ _ | (with_reducible refine Below.setCell (hp := ?hp) ?_ _; case hp => (first | (simp; done) | (simp; omega)))))
      go_upto_region 16 with (go_at_call 38; refine (HR.out _).mono ?_; rintro e w' ⟨rfl, hb⟩; (first | (obtain ⟨u, rfl⟩ := ext_more hb; clear hb) | (obtain ⟨u, rfl⟩ := ext_more_alloc hb; clear hb) | (obtain ⟨u, rfl⟩ := ext_of hb; clear hb)))
      have hmo := HW.out.1.size
      refine forget (fun X2 => Below w.heap.size w X2 ∧ Bk X2 w.heap.size #[.string hn, .int .i64 x, .int .i64 y, .slice AH lh.length ch] 29 ∧ Bk X2 (w.heap.size + 1) zeroC 54 ∧ Bk X2 (w.heap.size + 1 + 1) #[.int .i64 0, .int .i64 0, .int .i64 0] 81 ∧ Bk X2 vb #[.int .i64 kd, .string nm, .slice AW ws.length cw, .int .i64 n, .int .i64 rn, .int .i64 rd, .int .i64 sn, .int .i64 sd, .int .i64 att] 57 ∧ Bk X2 (vb + 1) #[.int .i64 0, .int .i64 att, .int .i64 (-1)] 81 ∧ Bk X2 (ext V u).heap.size #[.int .i64 kd, .string nm, .slice none 0 0, .int .i64 n, .int .i64 rn, .int .i64 rd, .int .i64 sn, .int .i64 sd] 54 ∧ vb + 1 < (ext V u).heap.size) ⟨Below.alloc0 (Below.ext0 HW.out.1 _) _, (HW.out.2.1.ext _).alloc _, (HW.out.2.2.1.ext _).alloc _, (HW.out.2.2.2.1.ext _).alloc _, (HW.out.2.2.2.2.1.ext _).alloc _, (HW.out.2.2.2.2.2.ext _).alloc _, Bk.new _ _ _, lt_ext lv1⟩ ?_
      clear HW y0 y1 y2 y3 y4 y5 y6 y7 y8 y9 yf lv lv1 HR
      generalize (ext V u).heap.size = rb at *
      rintro X ⟨hX, b0, b6, b7, b8, b9, br, hvr⟩
      have lr := br.lt
      have HX := Lib.hid (And.intro hX (And.intro b0 (And.intro b6 (And.intro b7 (And.intro b8 (And.intro b9 br))))))
      have hXs := hX.size
      clear hX b0 b6 b7 b8 b9 br
      go_wp2_with fail
      go_loopw [12, 13, 14, 15, 16] (fun v _ _ _ _ wr => ∃ j : Nat, j ≤ ws.length ∧ v = .int .i64 j ∧ badW L (ws.take j) = none ∧ Below X.heap.size X wr) (fun v _ _ _ _ _ => ws.length - (intOf v).toNat)
      case atStart => exact ⟨0, by omega, rfl, rfl, Below.refl _ _⟩
      case round =>
        obtain ⟨j, hj, rfl, hbad, hlow⟩ := hrel
        generalize wr = wA at *
        have hzA := hlow.size
        have b8 := HX.out.2.2.2.2.1.below hlow
        have c8 : wA.cell? ⟨vb, 2, none⟩ = some (.slice AW ws.length cw) := b8.cell 2
        have l8 := b8.lt
        by_cases hlt : j < ws.length
        · obtain ⟨ab, ao, A1, l, c1, rfl, hab, Hl, a0, gl, HE⟩ := pick_and (HH.out.2.1 wA (Below.trans0 HX.out.1 hlow)) hlt
          have hjl : (j : Int) < (ws.length : Int) := by omega
          have abw : ab < wA.heap.size := by omega
          have hbt := badW_take hbad Hl.out
          have h8 := HH.out.2.2.2.2.2.1 _ (List.mem_of_getElem? Hl.out)
          have HA := Lib.hid (And.intro hlow (And.intro hbt HE.out))
          clear hlow hbt HE hbad b8
          go_wp2_with fail
          clear c8 l8
          go_loopw [13, 14, 15, 16] (fun v _ _ _ wr => ∃ q : Nat, q ≤ l.length ∧ v = .int .i64 q ∧ badT L (l.take q) = none ∧ Below wA.heap.size wA wr) (fun v _ _ _ _ => l.length - (intOf v).toNat)
          case atStart => exact ⟨0, by omega, rfl, rfl, Below.refl _ _⟩
          case round =>
            obtain ⟨q, hq, rfl, hbadq, hw2⟩ := hrel
            generalize wr = w2 at *
            have hz2 := hw2.size
            have hlowX : Below X.heap.size X w2 := HA.out.1.trans (hw2.mono hzA)
            have b8 := HX.out.2.2.2.2.1.below hlowX
            have c8 : w2.cell? ⟨vb, 2, none⟩ = some (.slice (some ⟨ab, ao, none⟩) ws.length cw) := b8.cell 2
            have l8 := b8.lt
            have b0 := HX.out.2.1.below hlowX
            have c0 := b0.cell
            have l0 := b0.lt
            have a2 : w2.cell? ⟨ab, ao + j, none⟩ = some (.slice A1 l.length c1) := (hw2.cell (p := ⟨_, _, none⟩) abw).trans a0
            have abw2 : ab < w2.heap.size := by omega
            have hwX : Below w.heap.size w w2 := Below.trans0 HX.out.1 hlowX
            by_cases hlq : q < l.length
            · obtain ⟨tb, to', tn, op, nn, m, ta, rfl, htb, Ht, t0, t1, t2, t3, t4, gn1, gn2, tf1, tf2, tf3⟩ := pick_ts (HA.out.2.2.keep (hw2.mono (by omega)) (Nat.le_refl _)) hlq
              have hql : (q : Int) < (l.length : Int) := by omega
              have tbw : tb < w2.heap.size := by omega
              obtain ⟨⟨er, pa, pm⟩, hnum⟩ : ∃ p, numP L (tn, op, nn, m, ta) = p := ⟨_, rfl⟩
              have hbt := badT_take hbadq Ht.out
              rw [hnum] at hbt
              have hT := HH.out.2.2.1 tn op nn m ta
              rw [testE_is hnum] at hT
              have HB := Lib.hid (And.intro hT (And.intro hlowX (And.intro hw2 hwX)))
              have Hbt := Lib.hid hbt
              clear hT hlowX hw2 hwX hbt hbadq b8 b0
              by_cases her : er = 0
              · subst her
                have Hbt2 := Lib.hid (show badT L (l.take (q + 1)) = none from Hbt.out)
                go_wp2_with fail
                refine wp_region_ext w2 (by kernel_rfl) (by kernel_rfl) ?_
                repeat (go_big_quiet_step ((go_at_call 39; exact Calls.in_ext (HB.out.1 _ (Below.ext0 HB.out.2.2.2 _)))))
                refine wpQuiet_nil (fun v => ?_)
                go_wp2_with fail
                go_roundw
                case rel => exact ⟨q + 1, by omega, by go_num, Hbt2.out, HB.out.2.2.1.trans ((below_ext w2 v).mono hz2)⟩
                case measure => simp [intOf]; omega
              · have Hfa := Lib.hid (show faultI L false (kd, nm, ws, n, (rn, rd), (sn, sd), att) = (er, ta) by
                  have e1 : badT L (l.take (q + 1)) = some (er, ta) := by rw [Hbt.out, if_neg her]
                  have e2 := badT_stop e1
                  have e3 := HA.out.2.1
                  rw [e2] at e3
                  have e4 := badW_stop e3
                  unfold faultI
                  rw [if_neg (by decide), if_neg (by simp only; omega), if_neg (by rw [Hq.out]; decide)]
                  simp only
                  rw [e4])
                have hne : (er != 0) = true := by simpa using her
                have b9 := HX.out.2.2.2.2.2.1.below HB.out.2.1
                have y9 : w2.cell? ⟨vb + 1, 0, none⟩ = some (.int .i64 0) := b9.cell 0
                have y92 : w2.cell? ⟨vb + 1, 2, none⟩ = some (.int .i64 (-1)) := b9.cell 2
                have yf := b9.free
                have yl := b9.lt
                clear b9
                go_upto_region 22 with (fail)
                refine wp_region_ext w2 (by kernel_rfl) (by kernel_rfl) ?_
                repeat (go_big_quiet_step ((go_at_call 39; exact Calls.in_ext (HB.out.1 _ (Below.ext0 HB.out.2.2.2 _)))))
                refine wpQuiet_nil (fun v => ?_)
                go_upto_region 26 with (fail)
                refine forget (fun Y => Below w.heap.size w Y ∧ Bk Y (w.heap.size + 1) zeroC 54 ∧ Bk Y (w.heap.size + 1 + 1) #[.int .i64 0, .int .i64 0, .int .i64 0] 81 ∧ Bk Y (vb + 1) #[.int .i64 er, .int .i64 att, .int .i64 ta] 81) ⟨?_, ?_, ?_, ?_⟩ ?_
                · exact ((Below.ext0 HB.out.2.2.2 v).setCell (by simp; omega) _).setCell (by simp; omega) _
                · exact ((((HX.out.2.2.1.below HB.out.2.1).ext v).far (by simp; omega) _).far (by simp; omega) _)
                · exact ((((HX.out.2.2.2.1.below HB.out.2.1).ext v).far (by simp; omega) _).far (by simp; omega) _)
                · exact (((HX.out.2.2.2.2.2.1.below HB.out.2.1).ext v).set_ 0 _).set_ 2 _
                rintro Y ⟨hY, b6, b7, b9⟩
                have x0 : Y.cell? ⟨vb + 1, 0, none⟩ = some (.int .i64 er) := b9.cell 0
                have x1 : Y.cell? ⟨vb + 1, 1, none⟩ = some (.int .i64 att) := b9.cell 1
                have x2 : Y.cell? ⟨vb + 1, 2, none⟩ = some (.int .i64 ta) := b9.cell 2
                have l9 := b9.lt
                have f6 := b6.free
                have l6 := b6.lt
                have f7 := b7.free
                have l7 := b7.lt
                have c6 : ∀ j, Y.cell? ⟨w.heap.size + 1, j, none⟩ = (#[.int .i64 0, .string ⟨#[]⟩, .slice none 0 0, .int .i64 0, .int .i64 0, .int .i64 0, .int .i64 0, .int .i64 0] : Array Value)[j]? := b6.cell
                have c7z := b7.cell
                have HY := Lib.hid hY
                clear hY b6 b7 b9
                go_region
                all_goals go_wp2_with fail
                all_goals
                  refine bodyPost_ret (v := .tuple #[.agg #[.int .i64 0, .string ⟨#[]⟩, .slice none 0 0, .int .i64 0, .int .i64 0, .int .i64 0, .int .i64 0, .int .i64 0], .agg #[.int .i64 er, .int .i64 att, .int .i64 ta]]) (by simp [results, Try.results30, go_sem, l6, l7, c6, c7z]) rfl (item_bad (er := er) (ot := ta) (Hfa.out) (by first | decide | assumption) ?_)
                  have hw := HY.out
                  (repeat (first | with_reducible exact Below.refl _ _ | with_reducible assumption | with_reducible refine Below.alloc0 ?_ _ | with_reducible refine Below.ext0 ?_ _ | with_reducible refine Below.drew ?_ | with_reducible refine below_drewN ?_ _ | (with_reducible refine Below.setCell (hp := ?hp) ?_ _; case hp => (first | (simp; done) | (simp; omega)))))
            · obtain rfl : q = l.length := by omega
              rw [List.take_length] at hbadq
              have HB := Lib.hid (show badW L (ws.take (j + 1)) = none by rw [HA.out.2.1]; exact hbadq)
              have HB2 := Lib.hid hlowX
              clear hlowX hw2 hwX hbadq b8 b0
              go_wp2_with fail
              go_roundw
              case rel => exact ⟨j + 1, by omega, by go_num, HB.out, HB2.out⟩
              case measure => simp [intOf]; omega
        · obtain rfl : j = ws.length := by omega
          rw [List.take_length] at hbad
          refine forget (fun V => Below X.heap.size X V) hlow ?_
          clear c8 l8 b8 hlow hzA
          intro V hV
          have hVz := hV.size
          have b8 := HX.out.2.2.2.2.1.below hV
          have c8 : V.cell? ⟨vb, 2, none⟩ = some (.slice AW ws.length cw) := b8.cell 2
          have l8 := b8.lt
          have HV := Lib.hid (And.intro (Below.trans0 HX.out.1 hV) (And.intro (HX.out.2.1.below hV) (And.intro (HX.out.2.2.1.below hV) (And.intro (HX.out.2.2.2.1.below hV) (And.intro b8 (And.intro (HX.out.2.2.2.2.2.1.below hV) (HX.out.2.2.2.2.2.2.below hV)))))))
          have Hbad := Lib.hid hbad
          have hrV : rb + 1 ≤ V.heap.size := by omega
          have hwV := HV.out.1.size
          clear hV b8 HX hbad
          go_upto_region 28 with (fail)
          clear c8 l8
          go_loopw [17] (fun v wr => ∃ (j : Nat) (v7 : Value), j ≤ ws.length ∧ v = .int .i64 j ∧ Below rb V wr ∧ Bk wr rb (rlC (kd, nm, ws, n, (rn, rd), (sn, sd), att) v7) 54 ∧ OwnL tZn 42 wr (rb + 1) 0 v7 (zonesW L (ws.take j))) (fun v _ => ws.length - (intOf v).toNat)
          case atStart => exact ⟨0, _, by omega, rfl, Below.refl _ _, HV.out.2.2.2.2.2.2, OwnL.nil⟩
          case round =>
            obtain ⟨j, v7, hj, rfl, hlow, br, hown⟩ := hrel
            obtain ⟨A7, c7, rfl, hc7, hm7⟩ := hown.form
            have hm7' : c7 ≤ 9223372036854775807 := by unfold maxLen at hm7; omega
            have hwr := hlow.size
            have b8 := HV.out.2.2.2.2.1.below' hlow (by omega)
            have c8 : wr.cell? ⟨vb, 2, none⟩ = some (.slice AW ws.length cw) := b8.cell 2
            have l8 := b8.lt
            have hwl : Below w.heap.size w wr := HV.out.1.trans (hlow.mono (by omega))
            have hlenW : (zonesW L (ws.take j)).length ≤ 3072 := by
              have := zonesW_len (L := L) (ws := ws.take j) (fun x hx => HH.out.2.2.2.2.2.1 x (List.mem_of_mem_take hx))
              rw [List.length_take] at this
              omega
            by_cases hlt : j < ws.length
            · obtain ⟨ab, ao, A1, l, c1, rfl, hab, Hl, a0, gl, HE⟩ := pick_and (HH.out.2.1 wr hwl) hlt
              have hjl : (j : Int) < (ws.length : Int) := by omega
              have abw : ab < wr.heap.size := by omega
              have h8 := HH.out.2.2.2.2.2.1 _ (List.mem_of_getElem? Hl.out)
              have hbl := badW_none Hbad.out _ (List.mem_of_getElem? Hl.out)
              have hzt := zonesW_take (L := L) Hl.out
              have hlen : (zonesP L l).length ≤ 256 := zonesP_len h8
              have HZ2 := Lib.hid (fun (X : World) (hX : Below wr.heap.size wr X) => HH.out.2.2.2.1 A1 l c1 X (Below.trans0 hwl hX) (HE.out.keep (hX.mono (by omega)) (Nat.le_refl _)) hbl h8)
              obtain ⟨zp, hzp⟩ : ∃ z, zonesP L l = z := ⟨_, rfl⟩
              rw [hzp] at hlen hzt HZ2
              obtain ⟨qs, hqs⟩ : ∃ z, zonesW L (ws.take j) = z := ⟨_, rfl⟩
              rw [hqs] at hlenW hzt hown br hc7
              obtain ⟨ob, hob⟩ : ∃ o, (Value.slice A7 qs.length c7).ownBlock = o := ⟨_, rfl⟩
              have hol := hown.lt
              rw [hob] at hol
              have nr : ¬ ob = some rb := fun e => by have := hol rb e; omega
              have n8 : ¬ ob = some vb := fun e => by have := hol _ e; omega
              have n0 : ¬ ob = some w.heap.size := fun e => by have := hol _ e; omega
              have na : ¬ ob = some ab := fun e => by have := hol _ e; omega
              have cr2 : wr.cell? ⟨rb, 2, none⟩ = some (.slice A7 qs.length c7) := br.cell 2
              have lr := br.lt
              have b0 := HV.out.2.1.below' hlow (by omega)
              have l0 := b0.lt
              have xr : ∀ u, (extN ob wr u).cell? ⟨rb, 2, none⟩ = some (.slice A7 qs.length c7) := fun u => (extN_cell rb 2 lr nr).trans cr2
              have x8 : ∀ u, (extN ob wr u).cell? ⟨vb, 2, none⟩ = some (.slice (some ⟨ab, ao, none⟩) ws.length cw) := fun u => (extN_cell vb 2 l8 n8).trans c8
              have xa : ∀ u, (extN ob wr u).cell? ⟨ab, ao + j, none⟩ = some (.slice A1 l.length c1) := fun u => (extN_cell ab _ abw na).trans a0
              have x0 : ∀ u, (extN ob wr u).cell? ⟨w.heap.size, 0, none⟩ = some (.string hn) := fun u => (extN_cell _ _ l0 n0).trans (b0.cell 0)
              have x1 : ∀ u, (extN ob wr u).cell? ⟨w.heap.size, 1, none⟩ = some (.int .i64 x) := fun u => (extN_cell _ _ l0 n0).trans (b0.cell 1)
              have x2 : ∀ u, (extN ob wr u).cell? ⟨w.heap.size, 2, none⟩ = some (.int .i64 y) := fun u => (extN_cell _ _ l0 n0).trans (b0.cell 2)
              have x3 : ∀ u, (extN ob wr u).cell? ⟨w.heap.size, 3, none⟩ = some (.slice AH lh.length ch) := fun u => (extN_cell _ _ l0 n0).trans (b0.cell 3)
              have HX := Lib.hid (And.intro hlow (And.intro br (And.intro hown (And.intro hzt hob))))
              have HS0 := Lib.hid (show Only (fun g => ob = some g) wr wr.drew from (Only.refl _ _).drew)
              clear hzt hlow br hown b8 b0 hbl HE hzp hqs hob hwl
              go_upto_region 30 with (fail)
              refine region_planl (S := fun w' => ∃ u, w' = extN ob wr u) [([0, 1, 2, 3, 4, 5, 6, 7], [8, 9]), ([10], [])] 11 (by kernel_rfl) (by kernel_rfl) (mem_extN HS0.out) ?_
              refine plan_take (fun K9 h9 => ?_)
              simp only [List.map_cons, List.map_nil, pickO, List.getD_cons_zero, List.getD_cons_succ]
              repeat (go_big_quiet_step (fail))
              refine wpQuiet_nil (h9 _ ?_)
              clear h9 K9
              refine plan_run (fun K9 h9 => ?_)
              simp only [pickO, List.getD_cons_zero, List.getD_cons_succ]
              go_wp2_with (go_at_call 40; refine (HZ2.out _ ((Below.refl _ _).drew)).mono ?_; rintro e w2 ⟨A9, c9, rfl, g2, g3, g4, g1⟩; have H2 := Lib.hid (And.intro g1 (And.intro g2 (And.intro g3 g4))); clear g1 g2 g3 g4)
              have hS2 : Only (fun g => ob = some g) wr w2 := HS0.out.trans (Only.of_below H2.out.1)
              refine h9 _ _ (mem_extN hS2) ?_
              clear h9 K9
              have HS2 := Lib.hid hS2
              have hz2 := hS2.size
              obtain ⟨css, k1, k2, k3⟩ := zns_flat H2.out.2.2.2
              have HC := Lib.hid (And.intro k1 (And.intro k2 k3))
              clear k1 k2 k3 hS2
              refine plan_run (fun K9 h9 => ?_)
              simp only [pickO, List.getD_cons_zero, List.getD_cons_succ]
              refine list_appendL (T := tZn) (base := rb + 1) (B := 0) (qs := qs) (v := .slice A7 qs.length c7) rfl _ _ _ rfl 160 Try.underlying50 (by kernel_rfl) (by decide) one_zn rfl (HX.out.2.2.1.below ((Below.refl _ wr).drew.trans H2.out.1) (by omega)) A9 zp.length c9 zp css rfl rfl HC.out.1 (fun i a1 a2 => HC.out.2.1 _ _ i a1 a2) HC.out.2.2 (by unfold maxLen; omega) (by omega) (by omega) (by omega) ?_
              intro A8 c8' w8 hown8 hbel8 hg8 hd8
              show K9 _ _
              go_simp
              have hS8 : Only (fun g => ob = some g) wr w8 := HS2.out.grown hg8 (fun g e => .inl (HX.out.2.2.2.2.symm.trans e))
              have H8 := Lib.hid (And.intro hown8 hS8)
              refine h9 _ _ (mem_extN hS8) ?_
              clear h9 K9 hown8 hbel8 hg8 hd8 hS8
              refine plan_next ?_
              refine plan_take (fun K9 h9 => ?_)
              simp only [List.map_cons, List.map_nil, pickO, List.getD_cons_zero, List.getD_cons_succ]
              repeat (go_big_quiet_step (fail))
              refine wpQuiet_nil (h9 _ ?_)
              clear h9 K9
              refine plan_next (plan_end ?_)
              simp only [pickO, List.getD_cons_zero, List.getD_cons_succ]
              have br8 := HX.out.2.1.only H8.out.2 nr
              have cq8 : w8.cell? ⟨rb, 2, none⟩ = some (.slice A7 qs.length c7) := br8.cell 2
              have fq8 := br8.free 2
              have lq8 := br8.lt
              have HQ8 := Lib.hid br8
              clear br8
              go_wp2_with fail
              go_roundw
              case rel =>
                have hz8 := H8.out.2.size
                refine ⟨j + 1, .slice A8 (qs.length + zp.length) c8', by omega, by go_num, ?_, HQ8.out.set_ 2 _, ?_⟩
                · exact ((HX.out.1.trans (H8.out.2.to_below (B := rb) (fun g hg => by have := hol g hg; omega) (by omega))).setCell (by simp) _)
                · rw [HX.out.2.2.2.1]
                  exact H8.out.1.only ((Only.refl (fun b => b = rb) w8).set_ (p := ⟨rb, 2, none⟩) (.inl rfl) _) (fun g hg => by omega) (by omega) (fun g hg => by have := (H8.out.1.lt g hg).1; omega)
              case measure => simp [intOf]; omega
            · obtain rfl : j = ws.length := by omega
              rw [List.take_length] at hown hc7 br hlenW
              have hfault : (faultI L false (kd, nm, ws, n, (rn, rd), (sn, sd), att)) = if 200 < (zonesI L (kd, nm, ws, n, (rn, rd), (sn, sd), att)).length then (3, -1) else (0, 0) := by
                unfold faultI
                rw [if_neg (by decide), if_neg (by simp only; omega), if_neg (by rw [Hq.out]; decide)]
                simp only [Hbad.out]
              have lr := br.lt
              have B6 := HV.out.2.2.1.below' hlow (by omega)
              have B7 := HV.out.2.2.2.1.below' hlow (by omega)
              have B9 := HV.out.2.2.2.2.2.1.below' hlow (by omega)
              have hlt := hown.lt
              have HX := Lib.hid (And.intro hwl (And.intro B6 (And.intro B7 (And.intro B9 (And.intro br (And.intro hown hlt))))))
              clear B6 B7 B9 hlt
              by_cases hnil : ws = []
              · have hzi : zonesI L (kd, nm, ws, n, (rn, rd), (sn, sd), att) = [limZ] := by unfold zonesI; rw [if_pos hnil]
                rw [hzi] at hfault
                have Hf0 := Lib.hid (And.intro (show (faultI L false (kd, nm, ws, n, (rn, rd), (sn, sd), att)) = (0, 0) from hfault) hzi)
                have hz0 : ws.length = 0 := by rw [hnil]; rfl
                have cr2 : wr.cell? ⟨rb, 2, none⟩ = some (.slice A7 (zonesW L ws).length c7) := br.cell 2
                have fr := br.free 2
                clear hfault br hown hzi hlow hwl hlenW
                rw [hz0] at c8
                simp only [hz0]
                go_upto_region 33 with (first
                  | (go_at_call 15; refine (rlimits_any _).mono ?_; rintro e w1 ⟨rfl, hb⟩; obtain ⟨u, rfl⟩ := ext_of hb; clear hb)
                  | (refine list_lit1 rfl _ 42 _ rfl (znV limZ) rfl Try.underlying50 (info_zn rfl) (by decide) (by decide) (zero_zn rfl) ?_))
                refine forget (fun X => Below w.heap.size w X ∧ Bk X (w.heap.size + 1) zeroC 54 ∧ Bk X (w.heap.size + 1 + 1) #[.int .i64 0, .int .i64 0, .int .i64 0] 81 ∧ Bk X (vb + 1) #[.int .i64 0, .int .i64 att, .int .i64 (-1)] 81 ∧ Bk X rb (rlC (kd, nm, ws, n, (rn, rd), (sn, sd), att) (.slice (some ⟨(ext wr u).heap.size, 0, none⟩) 1 1)) 54 ∧ Bk X (ext wr u).heap.size (znV limZ) 42 ∧ rb < (ext wr u).heap.size) ⟨?_, ?_, ?_, ?_, ?_, ?_, lt_ext lr⟩ ?_
                · have hw := HX.out.1
                  (repeat (first | with_reducible exact Below.refl _ _ | with_reducible assumption | with_reducible refine Below.alloc0 ?_ _ | with_reducible refine Below.ext0 ?_ _ | with_reducible refine Below.drew ?_ | with_reducible refine below_drewN ?_ _ | (with_reducible refine Below.setCell (hp := ?hp) ?_ _; case hp => (first | (simp; done) | (simp; omega)))))
                · first | exact ((HX.out.2.1.ext u).far (by simp; omega) _).alloc _ | exact ((HX.out.2.1.ext u).alloc _).far (by simp; omega) _
                · first | exact ((HX.out.2.2.1.ext u).far (by simp; omega) _).alloc _ | exact ((HX.out.2.2.1.ext u).alloc _).far (by simp; omega) _
                · first | exact ((HX.out.2.2.2.1.ext u).far (by simp; omega) _).alloc _ | exact ((HX.out.2.2.2.1.ext u).alloc _).far (by simp; omega) _
                · first | exact ((HX.out.2.2.2.2.1.ext u).set_ 2 _).alloc _ | exact ((HX.out.2.2.2.2.1.ext u).alloc _).set_ 2 _
                · first | exact bk_new_at _ _ _ _ (by simp) | exact (Bk.new _ _ _).far (by have := lt_ext (u := u) lr; simp; omega) _
                generalize (ext wr u).heap.size = g0 at *
                clear cr2 fr c8 l8 HX lr
                rintro X ⟨k1, k2, k3, k4, k5, k6, k7⟩
                have cy : X.cell? ⟨rb, 2, none⟩ = some (.slice (some ⟨g0, 0, none⟩) 1 1) := k5.cell 2
                have lk := k5.lt
                have HK := Lib.hid (And.intro k1 (And.intro k2 (And.intro k3 (And.intro k4 (And.intro k5 k6)))))
                clear k1 k2 k3 k4 k5 k6
                go_upto_region 36 with (fail)
                refine forget (fun Y => Below w.heap.size w Y ∧ Bk Y (w.heap.size + 1) zeroC 54 ∧ Bk Y (w.heap.size + 1 + 1) #[.int .i64 0, .int .i64 0, .int .i64 0] 81 ∧ Bk Y (vb + 1) #[.int .i64 0, .int .i64 att, .int .i64 (-1)] 81 ∧ Bk Y rb #[.int .i64 kd, .string nm, .slice (some ⟨g0, 0, none⟩) 1 1, .int .i64 n, .int .i64 rn, .int .i64 rd, .int .i64 sn, .int .i64 sd] 54 ∧ OwnL tZn 42 Y 0 0 (.slice (some ⟨g0, 0, none⟩) 1 1) [limZ] ∧ (∀ g, (Value.slice (some ⟨g0, 0, none⟩) 1 1).ownBlock = some g → rb < g)) ⟨HK.out.1, HK.out.2.1, HK.out.2.2.1, HK.out.2.2.2.1, HK.out.2.2.2.2.1, own_lit HK.out.2.2.2.2.2 limZ_good, fun g hg => by obtain rfl : g0 = g := (Option.some.inj hg); exact k7⟩ ?_
                rintro Y ⟨hY, b6, b7, b9, br, hown, hob⟩
                have x0 : Y.cell? ⟨vb + 1, 0, none⟩ = some (.int .i64 0) := b9.cell 0
                have x1 : Y.cell? ⟨vb + 1, 1, none⟩ = some (.int .i64 att) := b9.cell 1
                have x2 : Y.cell? ⟨vb + 1, 2, none⟩ = some (.int .i64 (-1)) := b9.cell 2
                have l9 := b9.lt
                have z0 : Y.cell? ⟨rb, 0, none⟩ = some (.int .i64 kd) := br.cell 0
                have z1 : Y.cell? ⟨rb, 1, none⟩ = some (.string nm) := br.cell 1
                have z2 : Y.cell? ⟨rb, 2, none⟩ = some (.slice (some ⟨g0, 0, none⟩) 1 1) := br.cell 2
                have z3 : Y.cell? ⟨rb, 3, none⟩ = some (.int .i64 n) := br.cell 3
                have z4 : Y.cell? ⟨rb, 4, none⟩ = some (.int .i64 rn) := br.cell 4
                have z5 : Y.cell? ⟨rb, 5, none⟩ = some (.int .i64 rd) := br.cell 5
                have z6 : Y.cell? ⟨rb, 6, none⟩ = some (.int .i64 sn) := br.cell 6
                have z7 : Y.cell? ⟨rb, 7, none⟩ = some (.int .i64 sd) := br.cell 7
                have lr9 := br.lt
                have f6 := b6.free
                have l6 := b6.lt
                have f7 := b7.free
                have l7 := b7.lt
                have c6 : ∀ j, Y.cell? ⟨w.heap.size + 1, j, none⟩ = (#[.int .i64 0, .string ⟨#[]⟩, .slice none 0 0, .int .i64 0, .int .i64 0, .int .i64 0, .int .i64 0, .int .i64 0] : Array Value)[j]? := b6.cell
                have c7z := b7.cell
                have HY := Lib.hid (And.intro hY (And.intro hown hob))
                clear hY b6 b7 b9 br hown hob
                go_region
                all_goals go_wp2_with fail
                all_goals
                  refine bodyPost_ret (v := .tuple #[.agg (rlC (kd, nm, ws, n, (rn, rd), (sn, sd), att) (.slice (some ⟨g0, 0, none⟩) 1 1)), .agg #[.int .i64 0, .int .i64 att, .int .i64 (-1)]]) (by simp [rlC, results, Try.results30, go_sem, l6, l7, c6, c7z]) rfl (item_good (x := (kd, nm, ws, n, (rn, rd), (sn, sd), att)) (zs := [limZ]) Hf0.out.1 Hf0.out.2 ?_ (own_zones (S := fun g => g = w.heap.size + 1 ∨ g = w.heap.size + 1 + 1) HY.out.2.1 ?_ ?_))
                  · have hw := HY.out.1
                    (repeat (first | with_reducible exact Below.refl _ _ | with_reducible assumption | with_reducible refine Below.alloc0 ?_ _ | with_reducible refine Below.ext0 ?_ _ | with_reducible refine Below.drew ?_ | with_reducible refine below_drewN ?_ _ | (with_reducible refine Below.setCell (hp := ?hp) ?_ _; case hp => (first | (simp; done) | (simp; omega)))))
                  · repeat (first | with_reducible exact Only.refl _ _ | with_reducible refine Only.drew ?_ | (with_reducible refine Only.set_ (hp := ?hp) ?_ _; case hp => (first | exact Or.inl (Or.inl rfl) | exact Or.inl (Or.inr rfl))))
                  · intro g hg hs
                    have := HY.out.2.2 g hg
                    omega
              · have hzi : zonesI L (kd, nm, ws, n, (rn, rd), (sn, sd), att) = zonesW L ws := by unfold zonesI; rw [if_neg hnil]; rfl
                have hpos : 0 < ws.length := by cases ws with | nil => exact absurd rfl hnil | cons => simp
                have hn0 : ((ws.length : Int) == 0) = false := by simpa using (show ¬ (ws.length : Int) = 0 by omega)
                rw [hzi] at hfault
                have cr2 : wr.cell? ⟨rb, 2, none⟩ = some (.slice A7 (zonesW L ws).length c7) := br.cell 2
                have y9 : wr.cell? ⟨vb + 1, 0, none⟩ = some (.int .i64 0) := HX.out.2.2.2.1.cell 0
                have yf := HX.out.2.2.2.1.free 0
                have lv1 := HX.out.2.2.2.1.lt
                by_cases h200 : 200 < (zonesW L ws).length
                · rw [if_pos h200] at hfault
                  have Hf := Lib.hid hfault
                  have h2' : 200 < ((zonesW L ws).length : Int) := by omega
                  clear hfault br hown hzi hnil hlow hwl
                  go_upto_region 35 with (fail)
                  refine forget (fun Y => Below w.heap.size w Y ∧ Bk Y (w.heap.size + 1) zeroC 54 ∧ Bk Y (w.heap.size + 1 + 1) #[.int .i64 0, .int .i64 0, .int .i64 0] 81 ∧ Bk Y (vb + 1) #[.int .i64 3, .int .i64 att, .int .i64 (-1)] 81) ⟨?_, ?_, ?_, ?_⟩ ?_
                  · exact (HX.out.1).setCell (by simp; omega) _
                  · exact (HX.out.2.1).far (by simp; omega) _
                  · exact (HX.out.2.2.1).far (by simp; omega) _
                  · exact (HX.out.2.2.2.1).set_ 0 _
                  rintro Y ⟨hY, b6, b7, b9⟩
                  have x0 : Y.cell? ⟨vb + 1, 0, none⟩ = some (.int .i64 3) := b9.cell 0
                  have x1 : Y.cell? ⟨vb + 1, 1, none⟩ = some (.int .i64 att) := b9.cell 1
                  have x2 : Y.cell? ⟨vb + 1, 2, none⟩ = some (.int .i64 (-1)) := b9.cell 2
                  have l9 := b9.lt
                  have f6 := b6.free
                  have l6 := b6.lt
                  have f7 := b7.free
                  have l7 := b7.lt
                  have c6 : ∀ j, Y.cell? ⟨w.heap.size + 1, j, none⟩ = (#[.int .i64 0, .string ⟨#[]⟩, .slice none 0 0, .int .i64 0, .int .i64 0, .int .i64 0, .int .i64 0, .int .i64 0] : Array Value)[j]? := b6.cell
                  have c7z := b7.cell
                  have HY := Lib.hid hY
                  clear hY b6 b7 b9
                  go_region
                  all_goals go_wp2_with fail
                  all_goals
                    refine bodyPost_ret (v := .tuple #[.agg #[.int .i64 0, .string ⟨#[]⟩, .slice none 0 0, .int .i64 0, .int .i64 0, .int .i64 0, .int .i64 0, .int .i64 0], .agg #[.int .i64 3, .int .i64 att, .int .i64 (-1)]]) (by simp [results, Try.results30, go_sem, l6, l7, c6, c7z]) rfl (item_bad (er := 3) (ot := (-1)) (Hf.out) (by first | decide | assumption) ?_)
                    have hw := HY.out
                    (repeat (first | with_reducible exact Below.refl _ _ | with_reducible assumption | with_reducible refine Below.alloc0 ?_ _ | with_reducible refine Below.ext0 ?_ _ | with_reducible refine Below.drew ?_ | with_reducible refine below_drewN ?_ _ | (with_reducible refine Below.setCell (hp := ?hp) ?_ _; case hp => (first | (simp; done) | (simp; omega)))))
                · rw [if_neg h200] at hfault
                  have Hf0 := Lib.hid (And.intro hfault hzi)
                  have h2' : ¬ 200 < ((zonesW L ws).length : Int) := by omega
                  clear hfault br hown hzi hnil hlow hwl
                  generalize zonesW L ws = zw at *
                  go_upto_region 36 with (fail)
                  refine forget (fun Y => Below w.heap.size w Y ∧ Bk Y (w.heap.size + 1) zeroC 54 ∧ Bk Y (w.heap.size + 1 + 1) #[.int .i64 0, .int .i64 0, .int .i64 0] 81 ∧ Bk Y (vb + 1) #[.int .i64 0, .int .i64 att, .int .i64 (-1)] 81 ∧ Bk Y rb #[.int .i64 kd, .string nm, .slice A7 zw.length c7, .int .i64 n, .int .i64 rn, .int .i64 rd, .int .i64 sn, .int .i64 sd] 54 ∧ OwnL tZn 42 Y 0 0 (.slice A7 zw.length c7) zw ∧ (∀ g, (Value.slice A7 zw.length c7).ownBlock = some g → rb < g)) ⟨HX.out.1, HX.out.2.1, HX.out.2.2.1, HX.out.2.2.2.1, HX.out.2.2.2.2.1, own_zones (S := fun _ => False) HX.out.2.2.2.2.2.1 (Only.refl _ _) (fun _ _ h => h), fun g hg => by have := (HX.out.2.2.2.2.2.2 g hg).1; omega⟩ ?_
                  rintro Y ⟨hY, b6, b7, b9, br, hown, hob⟩
                  have x0 : Y.cell? ⟨vb + 1, 0, none⟩ = some (.int .i64 0) := b9.cell 0
                  have x1 : Y.cell? ⟨vb + 1, 1, none⟩ = some (.int .i64 att) := b9.cell 1
                  have x2 : Y.cell? ⟨vb + 1, 2, none⟩ = some (.int .i64 (-1)) := b9.cell 2
                  have l9 := b9.lt
                  have z0 : Y.cell? ⟨rb, 0, none⟩ = some (.int .i64 kd) := br.cell 0
                  have z1 : Y.cell? ⟨rb, 1, none⟩ = some (.string nm) := br.cell 1
                  have z2 : Y.cell? ⟨rb, 2, none⟩ = some (.slice A7 zw.length c7) := br.cell 2
                  have z3 : Y.cell? ⟨rb, 3, none⟩ = some (.int .i64 n) := br.cell 3
                  have z4 : Y.cell? ⟨rb, 4, none⟩ = some (.int .i64 rn) := br.cell 4
                  have z5 : Y.cell? ⟨rb, 5, none⟩ = some (.int .i64 rd) := br.cell 5
                  have z6 : Y.cell? ⟨rb, 6, none⟩ = some (.int .i64 sn) := br.cell 6
                  have z7 : Y.cell? ⟨rb, 7, none⟩ = some (.int .i64 sd) := br.cell 7
                  have lr9 := br.lt
                  have f6 := b6.free
                  have l6 := b6.lt
                  have f7 := b7.free
                  have l7 := b7.lt
                  have c6 : ∀ j, Y.cell? ⟨w.heap.size + 1, j, none⟩ = (#[.int .i64 0, .string ⟨#[]⟩, .slice none 0 0, .int .i64 0, .int .i64 0, .int .i64 0, .int .i64 0, .int .i64 0] : Array Value)[j]? := b6.cell
                  have c7z := b7.cell
                  have HY := Lib.hid (And.intro hY (And.intro hown hob))
                  clear hY b6 b7 b9 br hown hob
                  go_region
                  all_goals go_wp2_with fail
                  all_goals
                    refine bodyPost_ret (v := .tuple #[.agg (rlC (kd, nm, ws, n, (rn, rd), (sn, sd), att) (.slice A7 zw.length c7)), .agg #[.int .i64 0, .int .i64 att, .int .i64 (-1)]]) (by simp [rlC, results, Try.results30, go_sem, l6, l7, c6, c7z]) rfl (item_good (x := (kd, nm, ws, n, (rn, rd), (sn, sd), att)) (zs := zw) Hf0.out.1 Hf0.out.2 ?_ (own_zones (S := fun g => g = w.heap.size + 1 ∨ g = w.heap.size + 1 + 1) HY.out.2.1 ?_ ?_))
                    · have hw := HY.out.1
                      (repeat (first | with_reducible exact Below.refl _ _ | with_reducible assumption | with_reducible refine Below.alloc0 ?_ _ | with_reducible refine Below.ext0 ?_ _ | with_reducible refine Below.drew ?_ | with_reducible refine below_drewN ?_ _ | (with_reducible refine Below.setCell (hp := ?hp) ?_ _; case hp => (first | (simp; done) | (simp; omega)))))
                    · repeat (first | with_reducible exact Only.refl _ _ | with_reducible refine Only.drew ?_ | (with_reducible refine Only.set_ (hp := ?hp) ?_ _; case hp => (first | exact Or.inl (Or.inl rfl) | exact Or.inl (Or.inr rfl))))
                    · intro g hg hs
                      have := HY.out.2.2 g hg
                      omega
end Go.Proofs.Ytecjhniomjmocaa
