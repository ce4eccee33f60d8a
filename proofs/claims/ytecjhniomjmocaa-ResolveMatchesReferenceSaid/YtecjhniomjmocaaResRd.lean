/- Layer 12 (resolve): whether a test holds for facts, as the law asks. -/
import Derived.Test.YtecjhniomjmocaaResRc
namespace Go.Proofs.Ytecjhniomjmocaa
open Go.RowKit Go.ChangeAt
set_option linter.unusedVariables false
set_option linter.unusedSimpArgs false
attribute [local go_sem] ext_cell ext_frozen lt_ext ext_drew

def opB (op v n : Int) : Bool := if op = 1 then decide (v = n) else if op = 2 then decide (v ≠ n) else if op = 3 then decide (v < n) else if op = 4 then decide (v ≤ n) else if op = 5 then decide (n < v) else decide (n ≤ v)
def tstB (L : Nm) (f : Fc) (t : Ts) : Bool := opB t.2.1 (atF f (numP L t).2.1) (numP L t).2.2
set_option maxRecDepth 100000 in
set_option maxHeartbeats 4000000 in
theorem tested_any (nm : ByteArray) (op : Int) (nn : ByteArray) (n att : Int) (hn : ByteArray) (x y : Int) (AH : Option Addr) (lh : List Le) (ch : Nat) (f : Fc) (w : World) (B : Nat) (h : Elems tLe w B AH lh) (hB : B ≤ w.heap.size) (hm1 : lh.length ≤ 10) (hm2 : ∀ l ∈ lh, l.2.2.1.length + l.2.2.2.1.length ≤ 50) (L : Nm) (hL : (lvlsN lh, blksN lh) = L) (h1 : L.1.length ≤ 1000000) (h2 : L.2.length ≤ 1000000) (hf : f.length = 10)
    (r : Bool) (hr : tstB L f (nm, op, nn, n, att) = r) :
    Calls Try.prog 32 #[.agg #[.string nm, .int .i64 op, .string nn, .int .i64 n, .int .i64 att], .agg #[.string hn, .int .i64 x, .int .i64 y, .slice AH lh.length ch], .agg (fcV f)] w fun e w' => e = .returned (.bool r) ∧ Below w.heap.size w w' := by
  obtain ⟨a, ha⟩ : ∃ a, (numP L (nm, op, nn, n, att)).2.1 = a := ⟨_, rfl⟩
  obtain ⟨m, hm⟩ : ∃ m, (numP L (nm, op, nn, n, att)).2.2 = m := ⟨_, rfl⟩
  obtain ⟨er, her⟩ : ∃ er, (numP L (nm, op, nn, n, att)).1 = er := ⟨_, rfl⟩
  have ha10 : a < 10 := by rw [← ha]; exact numP_lt L _
  have hai : (a : Int) < 10 := by omega
  obtain ⟨v, hv⟩ : ∃ v, atF f a = v := ⟨_, rfl⟩
  have Hr := Lib.hid (show opB op v m = r by rw [← hr, ← hv, ← ha, ← hm]; rfl)
  have HT := Lib.hid (fun (X : World) (hX : Below w.heap.size w X) => rtest_any nm op nn n att hn x y AH lh ch X B (h.keep (hX.mono hB) (Nat.le_refl _)) (by have := hX.size; omega) hm1 hm2 L hL h1 h2)
  have HE := Lib.hid (show testE L (nm, op, nn, n, att) = .returned (.tuple #[.int .i64 a, .int .i64 m, .int .i64 er]) by unfold testE; rw [ha, hm, her])
  have hF := (bk_next (w.alloc (.cells #[.string nm, .int .i64 op, .string nn, .int .i64 n, .int .i64 att] 64)) (.cells #[.string hn, .int .i64 x, .int .i64 y, .slice AH lh.length ch] 29) (fcV f) 48)
  have cF : (((w.alloc (.cells #[.string nm, .int .i64 op, .string nn, .int .i64 n, .int .i64 att] 64)).alloc (.cells #[.string hn, .int .i64 x, .int .i64 y, .slice AH lh.length ch] 29)).alloc (.cells (fcV f) 48)).cell? ⟨w.heap.size + 2, a, none⟩ = some (.int .i64 v) := by
    have := hF.cell a
    rw [fcV_at (by omega), hv] at this
    simpa using this
  clear hr ha hm her hv h hm2 hL hF
  by_cases o1 : op = 1
  · subst o1
    have Hr1 := Lib.hid (show decide (v = m) = r from Hr.out)
    go_enter Try.func32, Try.ntmps32
    go_wp2_with (go_at_call 39; refine (HT.out _ (by (repeat (first | with_reducible exact Below.refl _ _ | with_reducible assumption | with_reducible refine Below.alloc0 ?_ _ | with_reducible refine Below.ext0 ?_ _ | with_reducible refine Below.drew ?_ | with_reducible refine below_drewN ?_ _ | (with_reducible refine Below.setCell (hp := ?hp) ?_ _; case hp => (first | (simp; done) | (simp; omega))))))).mono ?_; rw [HE.out]; rintro e w1 ⟨rfl, hb⟩; (first | (obtain ⟨u, rfl⟩ := ext_more hb; clear hb) | (obtain ⟨u, rfl⟩ := ext_more_alloc hb; clear hb) | (obtain ⟨u, rfl⟩ := ext_of hb; clear hb)))
    go_ret
    refine ⟨ret_bool (Eq.trans ?_ Hr1.out), by (repeat (first | with_reducible exact Below.refl _ _ | with_reducible assumption | with_reducible refine Below.alloc0 ?_ _ | with_reducible refine Below.ext0 ?_ _ | with_reducible refine Below.drew ?_ | with_reducible refine below_drewN ?_ _ | (with_reducible refine Below.setCell (hp := ?hp) ?_ _; case hp => (first | (simp; done) | (simp; omega)))))⟩
    first | rfl | (simp [bne]; done) | (simp [bne]; rfl)
  by_cases o2 : op = 2
  · subst o2
    have Hr1 := Lib.hid (show decide (v ≠ m) = r from Hr.out)
    go_enter Try.func32, Try.ntmps32
    go_wp2_with (go_at_call 39; refine (HT.out _ (by (repeat (first | with_reducible exact Below.refl _ _ | with_reducible assumption | with_reducible refine Below.alloc0 ?_ _ | with_reducible refine Below.ext0 ?_ _ | with_reducible refine Below.drew ?_ | with_reducible refine below_drewN ?_ _ | (with_reducible refine Below.setCell (hp := ?hp) ?_ _; case hp => (first | (simp; done) | (simp; omega))))))).mono ?_; rw [HE.out]; rintro e w1 ⟨rfl, hb⟩; (first | (obtain ⟨u, rfl⟩ := ext_more hb; clear hb) | (obtain ⟨u, rfl⟩ := ext_more_alloc hb; clear hb) | (obtain ⟨u, rfl⟩ := ext_of hb; clear hb)))
    go_ret
    refine ⟨ret_bool (Eq.trans ?_ Hr1.out), by (repeat (first | with_reducible exact Below.refl _ _ | with_reducible assumption | with_reducible refine Below.alloc0 ?_ _ | with_reducible refine Below.ext0 ?_ _ | with_reducible refine Below.drew ?_ | with_reducible refine below_drewN ?_ _ | (with_reducible refine Below.setCell (hp := ?hp) ?_ _; case hp => (first | (simp; done) | (simp; omega)))))⟩
    first | rfl | (simp [bne]; done) | (simp [bne]; rfl)
  by_cases o3 : op = 3
  · subst o3
    have Hr1 := Lib.hid (show decide (v < m) = r from Hr.out)
    go_enter Try.func32, Try.ntmps32
    go_wp2_with (go_at_call 39; refine (HT.out _ (by (repeat (first | with_reducible exact Below.refl _ _ | with_reducible assumption | with_reducible refine Below.alloc0 ?_ _ | with_reducible refine Below.ext0 ?_ _ | with_reducible refine Below.drew ?_ | with_reducible refine below_drewN ?_ _ | (with_reducible refine Below.setCell (hp := ?hp) ?_ _; case hp => (first | (simp; done) | (simp; omega))))))).mono ?_; rw [HE.out]; rintro e w1 ⟨rfl, hb⟩; (first | (obtain ⟨u, rfl⟩ := ext_more hb; clear hb) | (obtain ⟨u, rfl⟩ := ext_more_alloc hb; clear hb) | (obtain ⟨u, rfl⟩ := ext_of hb; clear hb)))
    go_ret
    refine ⟨ret_bool (Eq.trans ?_ Hr1.out), by (repeat (first | with_reducible exact Below.refl _ _ | with_reducible assumption | with_reducible refine Below.alloc0 ?_ _ | with_reducible refine Below.ext0 ?_ _ | with_reducible refine Below.drew ?_ | with_reducible refine below_drewN ?_ _ | (with_reducible refine Below.setCell (hp := ?hp) ?_ _; case hp => (first | (simp; done) | (simp; omega)))))⟩
    first | rfl | (simp [bne]; done) | (simp [bne]; rfl)
  by_cases o4 : op = 4
  · subst o4
    have Hr1 := Lib.hid (show decide (v ≤ m) = r from Hr.out)
    go_enter Try.func32, Try.ntmps32
    go_wp2_with (go_at_call 39; refine (HT.out _ (by (repeat (first | with_reducible exact Below.refl _ _ | with_reducible assumption | with_reducible refine Below.alloc0 ?_ _ | with_reducible refine Below.ext0 ?_ _ | with_reducible refine Below.drew ?_ | with_reducible refine below_drewN ?_ _ | (with_reducible refine Below.setCell (hp := ?hp) ?_ _; case hp => (first | (simp; done) | (simp; omega))))))).mono ?_; rw [HE.out]; rintro e w1 ⟨rfl, hb⟩; (first | (obtain ⟨u, rfl⟩ := ext_more hb; clear hb) | (obtain ⟨u, rfl⟩ := ext_more_alloc hb; clear hb) | (obtain ⟨u, rfl⟩ := ext_of hb; clear hb)))
    go_ret
    refine ⟨ret_bool (Eq.trans ?_ Hr1.out), by (repeat (first | with_reducible exact Below.refl _ _ | with_reducible assumption | with_reducible refine Below.alloc0 ?_ _ | with_reducible refine Below.ext0 ?_ _ | with_reducible refine Below.drew ?_ | with_reducible refine below_drewN ?_ _ | (with_reducible refine Below.setCell (hp := ?hp) ?_ _; case hp => (first | (simp; done) | (simp; omega)))))⟩
    first | rfl | (simp [bne]; done) | (simp [bne]; rfl)
  by_cases o5 : op = 5
  · subst o5
    have Hr1 := Lib.hid (show decide (m < v) = r from Hr.out)
    go_enter Try.func32, Try.ntmps32
    go_wp2_with (go_at_call 39; refine (HT.out _ (by (repeat (first | with_reducible exact Below.refl _ _ | with_reducible assumption | with_reducible refine Below.alloc0 ?_ _ | with_reducible refine Below.ext0 ?_ _ | with_reducible refine Below.drew ?_ | with_reducible refine below_drewN ?_ _ | (with_reducible refine Below.setCell (hp := ?hp) ?_ _; case hp => (first | (simp; done) | (simp; omega))))))).mono ?_; rw [HE.out]; rintro e w1 ⟨rfl, hb⟩; (first | (obtain ⟨u, rfl⟩ := ext_more hb; clear hb) | (obtain ⟨u, rfl⟩ := ext_more_alloc hb; clear hb) | (obtain ⟨u, rfl⟩ := ext_of hb; clear hb)))
    go_ret
    refine ⟨ret_bool (Eq.trans ?_ Hr1.out), by (repeat (first | with_reducible exact Below.refl _ _ | with_reducible assumption | with_reducible refine Below.alloc0 ?_ _ | with_reducible refine Below.ext0 ?_ _ | with_reducible refine Below.drew ?_ | with_reducible refine below_drewN ?_ _ | (with_reducible refine Below.setCell (hp := ?hp) ?_ _; case hp => (first | (simp; done) | (simp; omega)))))⟩
    first | rfl | (simp [bne]; done) | (simp [bne]; rfl)
  have Hr1 := Lib.hid (show decide (m ≤ v) = r by rw [← Hr.out]; unfold opB; rw [if_neg o1, if_neg o2, if_neg o3, if_neg o4, if_neg o5])
  go_enter Try.func32, Try.ntmps32
  go_wp2_with (go_at_call 39; refine (HT.out _ (by (repeat (first | with_reducible exact Below.refl _ _ | with_reducible assumption | with_reducible refine Below.alloc0 ?_ _ | with_reducible refine Below.ext0 ?_ _ | with_reducible refine Below.drew ?_ | with_reducible refine below_drewN ?_ _ | (with_reducible refine Below.setCell (hp := ?hp) ?_ _; case hp => (first | (simp; done) | (simp; omega))))))).mono ?_; rw [HE.out]; rintro e w1 ⟨rfl, hb⟩; (first | (obtain ⟨u, rfl⟩ := ext_more hb; clear hb) | (obtain ⟨u, rfl⟩ := ext_more_alloc hb; clear hb) | (obtain ⟨u, rfl⟩ := ext_of hb; clear hb)))
  go_ret
  refine ⟨ret_bool (Eq.trans ?_ Hr1.out), by (repeat (first | with_reducible exact Below.refl _ _ | with_reducible assumption | with_reducible refine Below.alloc0 ?_ _ | with_reducible refine Below.ext0 ?_ _ | with_reducible refine Below.drew ?_ | with_reducible refine below_drewN ?_ _ | (with_reducible refine Below.setCell (hp := ?hp) ?_ _; case hp => (first | (simp; done) | (simp; omega)))))⟩
  first | rfl | (simp [bne]; done) | (simp [bne]; rfl)
end Go.Proofs.Ytecjhniomjmocaa
