/- Layer 34 (deal): maps of accounts; balanced. -/
import Derived.Test.YtggmihnhdojepaaDealZ
import Derived.DeepKeys4
namespace Go.Proofs.Ytggmihnhdojepaa
open Go.RowKit Go.ChangeAt Go.Maps Go
set_option linter.unusedVariables false
set_option linter.unusedSimpArgs false
set_option maxRecDepth 100000
attribute [local go_sem] ext_cell ext_frozen lt_ext ext_drew

theorem accRow : (53 : TypeId) < Try.prog.types.size := of_decide_eq_true (by kernel_rfl)
theorem accWide : (match Try.prog.underlying 53 with | some (.array _ _) | some (.struct _) => true | _ => false) = true := by kernel_rfl
theorem keyedA : Go.Maps.Keyed Try.prog 53 := Go.Maps.Keyed.of_law (deep_law_laid laidOut (m := 2) (by omega) accRow (by kernel_rfl) accWide)
abbrev Acc := {p : Int × ByteArray // fits p.1 ∧ p.2.size ≤ maxLen}
def accV (c : Int × ByteArray) : Value := .agg #[.int .i64 c.1, .string c.2]
theorem key_acc {P : Program} {t ti ts : TypeId} {f1 f2 : Field} (ht : P.underlying t = some (.struct #[f1, f2])) (h1 : f1.type = ti ∧ f1.offset = 0 ∧ f1.name ≠ "_") (h2 : f2.type = ts ∧ f2.offset = 1 ∧ f2.name ≠ "_")
    (hi : P.underlying ti = some (.int .i64)) (hs : P.underlying ts = some .string) (hk : P.keyType t = true) (hc : P.cellsOf t = 2) (hc1 : P.cellsOf ti = 1) (hc2 : P.cellsOf ts = 1) {k : Int} {s : ByteArray} (hf : fits k) (hl : s.size ≤ maxLen) (d : Nat) (hd : P.types.size = d + 1) :
    (keyOf P t (.agg #[.int .i64 k, .string s])).isSome = true := by
  have hw : (Lit.int .i64 k).wf = true := by unfold fits at hf; simp [Lit.wf, IntKind.min, IntKind.max, IntKind.signed, IntKind.bits]; omega
  obtain ⟨rfl, a2, a3⟩ := h1
  obtain ⟨rfl, b2, b3⟩ := h2
  unfold keyOf
  rw [ht]
  simp [hk, Value.formed, ht, hc, hd, Program.keyLits, Value.cells, a2, b2, hi, hs, hc1, hc2, hw, hl, a3, b3]
theorem isKey (c : Acc) : (keyOf Try.prog 53 (accV c.1)).isSome = true := by
  obtain ⟨⟨k, s⟩, h1, h2⟩ := c
  obtain ⟨d, hd⟩ : ∃ d, Try.prog.types.size = d + 1 := by
    have h0 : 0 < Try.prog.types.size := Nat.lt_of_le_of_lt (Nat.zero_le _) accRow
    generalize Try.prog.types.size = z at h0
    exact ⟨z - 1, by omega⟩
  exact key_acc Try.underlying53 ⟨rfl, rfl, by decide⟩ ⟨rfl, rfl, by decide⟩ Try.underlying3 Try.underlying9 (by kernel_rfl) (by kernel_rfl) (by kernel_rfl) (by kernel_rfl) h1 h2 d hd
theorem ex_lit : ∃ lit : Acc → Lit, (∀ c, keyOf Try.prog 53 (accV c.1) = some (lit c)) ∧ ∀ x y, lit x = lit y → x = y := by
  refine ⟨fun c => (keyOf Try.prog 53 (accV c.1)).getD .nil, fun c => ?_, fun x y h => ?_⟩
  · have h := isKey c
    cases e : keyOf Try.prog 53 (accV c.1) with
    | none => rw [e] at h; cases h
    | some l => simp only [e, Option.getD_some]
  · have g1 := isKey x
    have g2 := isKey y
    cases e1 : keyOf Try.prog 53 (accV x.1) with
    | none => rw [e1] at g1; cases g1
    | some l1 =>
      cases e2 : keyOf Try.prog 53 (accV y.1) with
      | none => rw [e2] at g2; cases g2
      | some l2 =>
        simp only [e1, e2, Option.getD_some] at h
        subst h
        have := keyedA.inj e1 e2
        unfold accV at this
        simp only [Value.agg.injEq, Array.mk.injEq, List.cons.injEq, Value.int.injEq, Value.string.injEq, true_and, and_true] at this
        exact Subtype.ext (Prod.ext this.1 this.2)
theorem list_lookw {κ : Type} {lit : κ → Lit} {P : Program} {w : World} {ops : Array Oper} {rest : List Oper} {o : Oper} {a : Act} {Q : Exit → Act → World → Prop} {b m : Nat} {f : κ → Option Bool}
    (hw : Region.wanted o (yielded ops a.tmps) = true) (mm x : Operand) (t : TypeId) (hop : o.op = Op.lookup t mm x false) (k e : TypeId) (K : Go.Maps.Keyed P k) (ht : P.underlying t = some (.map k e)) (he : P.underlying e = some .bool) (hz : (zeroValue e).run P w = .ok (.bool false) w)
    (hm : a.eval mm = .map (some b)) (h : MapB lit P k e w b m f) (key : Value) (c : κ) (hx : a.eval x = key) (hkey : keyOf P k key = some (lit c)) (hK : wpList P ops Q rest (a.put o.dst (.bool ((f c).getD false))) w) : wpList P ops Q (o :: rest) a w := by
  unfold wpList
  rw [if_pos hw]
  refine .inl ?_
  have hrun := h.look K ht he hz hkey
  unfold Oper.wp
  simp [execOp, hop, hm, hx, hrun, Result.andThen]
  exact hK
theorem acc_in {w : World} {B : Nat} {A : Option Addr} {ps : List Pst} (h : Elems tPst w B A ps) {k : Nat} (hk : k < ps.length) {kd : Int} {nm : ByteArray} {a : Int} (he : ps[k]? = some ((kd, nm), a)) : fits kd ∧ nm.size ≤ maxLen := by
  obtain ⟨b, off, kd1, nm1, a1, _, _, Hk, _, _, _, f1, f2, _⟩ := pick_pst h hk
  rw [he] at Hk
  have := Hk.out
  simp only [Option.some.injEq, Prod.mk.injEq] at this
  obtain ⟨⟨rfl, rfl⟩, rfl⟩ := this
  exact ⟨f1, f2⟩
def seenA (L : List Pst) (k : Nat) : Acc → Option Bool := fun c => if ((L.take k).any fun p => decide (p.1 = c.1)) = true then some true else none
theorem seenA_zero (L : List Pst) : seenA L 0 = fun _ => none := rfl
theorem seenA_step {L : List Pst} {k : Nat} {p : Pst} {c : Acc} (hr : L[k]? = some p) (hc : c.1 = p.1) : seenA L (k + 1) = putF (seenA L k) c true := by
  funext x
  unfold seenA putF
  rw [List.take_add_one, hr]
  by_cases e : x = c
  · subst e; simp [hc]
  · have : ¬ p.1 = x.1 := fun h => e (Subtype.ext (h.symm.trans hc.symm))
    have h1 : ((L.take k ++ [p]).any fun p => decide (p.1 = x.1)) = ((L.take k).any fun p => decide (p.1 = x.1)) := by rw [List.any_append]; simp [this]
    rw [if_neg e, Option.toList_some, h1]
theorem seenA_no {L : List Pst} {k : Nat} {p : Pst} {c : Acc} (hr : L[k]? = some p) (hc : c.1 = p.1) (hn : (L.map (·.1)).Nodup) : seenA L k c = none := by
  unfold seenA
  rw [if_neg]
  intro h
  rw [List.any_eq_true] at h
  obtain ⟨q, hq, he⟩ := h
  have he : q.1 = p.1 := (of_decide_eq_true he).trans hc
  obtain ⟨j, hj, hjq⟩ := List.getElem_of_mem hq
  have hjk : j < k := by simp at hj; omega
  have hj2 : L[j]? = some q := by
    rw [← hjq, List.getElem_take]
    exact List.getElem?_eq_getElem (by simp at hj; omega)
  have h1 : (L.map (·.1))[j]? = some p.1 := by rw [List.getElem?_map, hj2]; simp [he]
  have h2 : (L.map (·.1))[k]? = some p.1 := by rw [List.getElem?_map, hr]; rfl
  have hlk : k < (L.map (·.1)).length := (List.getElem?_eq_some_iff.1 h2).1
  rw [List.getElem?_eq_getElem (by omega)] at h1 h2
  exact List.pairwise_iff_getElem.1 hn j k (by omega) hlk hjk ((Option.some.inj h1).trans (Option.some.inj h2).symm)
theorem sumP_take {L : List Pst} {k : Nat} {p : Pst} (h : L[k]? = some p) : sumP (L.take (k + 1)) = sumP (L.take k) + p.2 := by
  rw [List.take_add_one, h, sumP_app]
  show _ + (p.2 + 0) = _
  omega
theorem sumP_to {L : List Pst} (hb : ∀ p ∈ L, -3000000000 ≤ p.2 ∧ p.2 ≤ 3000000000) : ∀ k, k ≤ L.length → -(3000000000 * (k : Int)) ≤ sumP (L.take k) ∧ sumP (L.take k) ≤ 3000000000 * (k : Int)
  | 0, _ => by simp [sumP]
  | k + 1, hk => by
    have ih := sumP_to hb k (by omega)
    have hg : L[k]? = some L[k] := List.getElem?_eq_getElem (by omega)
    have hx := hb _ (List.mem_of_getElem? hg)
    rw [sumP_take hg]
    omega

set_option maxHeartbeats 4000000 in
theorem balanced_any (A : Option Addr) (cap n : Nat) (L : List Pst) (w : World) (B : Nat) (h : Elems tPst w B A L) (hB : B ≤ w.heap.size) (hn : n = L.length) (hl : n ≤ 15) (hnz : ∀ p ∈ L, p.2 ≠ 0) (hbd : ∀ p ∈ L, -3000000000 ≤ p.2 ∧ p.2 ≤ 3000000000) (hnd : (L.map (·.1)).Nodup) (hsum : sumP L = 0) :
    Calls Try.prog 19 #[.agg #[.int .i64 0, .slice A n cap]] w fun e w' => e = .returned (.bool true) ∧ Below w.heap.size w w' := by
  subst hn
  obtain ⟨lit, hkey, hinj⟩ := ex_lit
  have HL := Lib.hid (And.intro hnz (And.intro hbd (And.intro hnd hsum)))
  have HK := Lib.hid (And.intro hkey hinj)
  have HE := Lib.hid h
  have hmm := @run_makeMap Try.prog
  clear h hnz hbd hnd hsum hkey hinj
  go_enter Try.func19, Try.ntmps19
  go_upto_region 2 with (fail)
  refine forget (fun X => Below w.heap.size w X ∧ Bk X w.heap.size #[.int .i64 0, .slice A L.length cap] 34 ∧ MapB lit Try.prog 53 4 X (w.heap.size + 1) 0 (fun _ => none)) ⟨by (repeat (first | with_reducible exact Below.refl _ _ | with_reducible assumption | with_reducible refine Below.alloc0 ?_ _ | with_reducible refine Below.ext0 ?_ _ | with_reducible refine Below.drew ?_ | with_reducible refine below_drewN ?_ _ | (with_reducible refine Below.setCell (hp := ?hp) ?_ _; case hp => (first | (simp; done) | (simp; omega))))), (Bk.new _ _ _).alloc _, ?_⟩ ?_
  · have := MapB.new lit Try.prog 53 4 (w.alloc (.cells #[.int .i64 0, .slice A L.length cap] 34))
    simpa using this
  rintro Z ⟨hw, b0, hmp⟩
  have hws := hw.size
  have hsz : w.heap.size + 1 < Z.heap.size := hmp.lt
  have HZ := Lib.hid (And.intro hw (And.intro b0 hmp))
  have hE := HE.out.keep (hw.mono hB) (Nat.le_refl _)
  have HE2 := Lib.hid hE
  have hlI : (L.length : Int) ≤ 15 := by omega
  clear hmm hw b0 hmp hE HE
  go_wp2_with fail
  go_loopw [4, 5] (fun s i wr => ∃ k m : Nat, k ≤ L.length ∧ i = .int .i64 k ∧ s = .int .i64 (sumP (L.take k)) ∧ MapB lit Try.prog 53 4 wr (w.heap.size + 1) m (seenA L k) ∧ m ≤ k ∧ Only (fun g => g = w.heap.size + 1) Z wr) (fun _ i _ => L.length - (intOf i).toNat)
  case atStart => exact ⟨0, 0, by omega, rfl, rfl, by rw [seenA_zero]; exact HZ.out.2.2, by omega, Only.refl _ _⟩
  case round =>
    obtain ⟨k, m, hk, rfl, rfl, hmp, hmk, hon⟩ := hrel
    have b0 := HZ.out.2.1.only hon (by omega)
    have hlw := HZ.out.1.trans (hon.to_below (B := w.heap.size) (fun g hg => by omega) (by omega))
    have hE := HE2.out.keep (hon.to_below (B := B) (fun g hg => by omega) (by omega)) (Nat.le_refl _)
    have c0 := b0.cell
    have l0 := b0.lt
    have lm := hmp.lt
    have hos := hon.size
    have HM := Lib.hid hmp
    have HO := Lib.hid hon
    have HW := Lib.hid hlw
    obtain ⟨p0, p1⟩ := sumP_to HL.out.2.1 k hk
    clear b0 hlw hmp hon
    by_cases hlt : k < L.length
    · obtain ⟨b, off, kd, nm, a, rfl, hb, Hk, d0, d1, d2, f1, f2, _⟩ := pick_pst hE hlt
      have bw : b < wr.heap.size := by omega
      obtain ⟨m1, m2⟩ := HL.out.2.1 _ (List.mem_of_getElem? Hk.out)
      have hz := HL.out.1 _ (List.mem_of_getElem? Hk.out)
      simp only at m1 m2 hz
      have hz2 : (a == 0) = false := by simpa using hz
      have hkl : (k : Int) < (L.length : Int) := by omega
      have Hs := Lib.hid (sumP_take Hk.out)
      obtain ⟨c, hc⟩ : ∃ c : Acc, c.1 = (kd, nm) := ⟨⟨(kd, nm), f1, f2⟩, rfl⟩
      have Hno := Lib.hid (seenA_no Hk.out hc HL.out.2.2.1)
      have Hst := Lib.hid (seenA_step Hk.out hc)
      have HKc : Hid (keyOf Try.prog 53 (.agg #[.int .i64 kd, .string nm]) = some (lit c)) := Lib.hid (by have := HK.out.1 c; rw [hc] at this; exact this)
      have hml : m < maxLen := by unfold maxLen; omega
      have Hg : Hid ((seenA L k c).getD false = false) := Lib.hid (by rw [Hno.out]; rfl)
      obtain ⟨S, hS⟩ : ∃ v, sumP (L.take k) = v := ⟨_, rfl⟩
      rw [hS] at Hs p0 p1 ⊢
      have hmX : Hid (∀ W', Below wr.heap.size wr W' → MapB lit Try.prog 53 4 W' (w.heap.size + 1) m (seenA L k)) := Lib.hid fun W' hb => HM.out.below hb
      clear hE hS hz hc f1 f2
      go_wp2_with (first
        | (at_lookup; first
            | refine list_look rfl _ _ _ rfl 53 4 keyedA Try.underlying81 Try.underlying4 (zeroB _) rfl (hmX.out _ (by (repeat (first | with_reducible exact Below.refl _ _ | with_reducible assumption | with_reducible refine Below.alloc0 ?_ _ | with_reducible refine Below.ext0 ?_ _ | with_reducible refine Below.drew ?_ | with_reducible refine below_drewN ?_ _ | (with_reducible refine Below.setCell (hp := ?hp) ?_ _; case hp => (first | (simp; done) | (simp; omega))))))) _ _ rfl HKc.out ?_
            | refine list_lookw (by rfl) _ _ _ rfl 53 4 keyedA Try.underlying81 Try.underlying4 (zeroB _) rfl (hmX.out _ (by (repeat (first | with_reducible exact Below.refl _ _ | with_reducible assumption | with_reducible refine Below.alloc0 ?_ _ | with_reducible refine Below.ext0 ?_ _ | with_reducible refine Below.drew ?_ | with_reducible refine below_drewN ?_ _ | (with_reducible refine Below.setCell (hp := ?hp) ?_ _; case hp => (first | (simp; done) | (simp; omega))))))) _ _ rfl HKc.out ?_
           rw [Hg.out])
        | (at_mapUpdate; refine list_store rfl _ _ _ _ rfl 53 4 keyedA Try.underlying81 Try.underlying4 HK.out.2 hml rfl (hmX.out _ (by (repeat (first | with_reducible exact Below.refl _ _ | with_reducible assumption | with_reducible refine Below.alloc0 ?_ _ | with_reducible refine Below.ext0 ?_ _ | with_reducible refine Below.drew ?_ | with_reducible refine below_drewN ?_ _ | (with_reducible refine Below.setCell (hp := ?hp) ?_ _; case hp => (first | (simp; done) | (simp; omega))))))) _ c rfl HKc.out _ rfl ?_; intro w2 hm2 ho2; have bq : Bk w2 wr.heap.size #[.int .i64 kd, .string nm, .int .i64 a] 55 := (Bk.new wr _ _).only ho2 (by omega); have cq := bq.cell; have lq := bq.lt; clear bq; have HQ := Lib.hid (And.intro hm2 ho2); clear hm2 ho2))
      go_roundw
      case rel => exact ⟨k + 1, _, by omega, by go_num, by rw [Hs.out], by rw [Hst.out]; exact HQ.out.1, by split <;> omega, (HO.out.trans (Only.of_below (below_self wr _))).trans HQ.out.2⟩
      case measure => simp [intOf]; omega
    · obtain rfl : k = L.length := by omega
      rw [List.take_length, HL.out.2.2.2]
      clear hE p0 p1
      go_wp2_with fail
      go_ret
      exact ⟨rfl, HW.out⟩
end Go.Proofs.Ytggmihnhdojepaa
