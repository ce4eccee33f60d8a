/- The law's example: two titles that part at their first transfer. -/
import Derived.Test.YtojkpoikamcgkaaDoorOwnY
import Derived.BigQuiet
namespace Go.Proofs.YtojkpoikamcgkaaDoor
open Go.RowKit Go.Shelf
set_option linter.unusedVariables false
set_option linter.unusedSimpArgs false
attribute [local go_sem] ext_cell ext_frozen lt_ext ext_drew

set_option maxRecDepth 100000 in
set_option maxHeartbeats 4000000 in
theorem fork_any (se sh pl : Int) (fi : ByteArray) (n m : Nat) (A1 A2 : Option Addr) (xa xb : List Tr) (c1 c2 : Nat) (w : World) (B : Nat) (h1 : Elems tTr w B A1 xa) (h2 : Elems tTr w B A2 xb) (hB : B ≤ w.heap.size) (n1 : xa.length = n) (n2 : xb.length = m) (hn : 1 ≤ n) (hm : 1 ≤ m) (hc1 : n ≤ c1) (hc2 : c1 ≤ maxLen)
    (hs1 : smallT fi xa) (hs2 : smallT fi xb) (s1 : -9223372036854775808 ≤ se) (s2 : se ≤ 9223372036854775807) (s3 : -9223372036854775808 ≤ sh) (s4 : sh ≤ 9223372036854775807)
    (x y : Tr) (hx : xa[0]? = some x) (hy : xb[0]? = some y) (hxy : (x.1.toList == y.1.toList) = false) (hv1 : verifyL fi.data.toList (messageL se sh fi [] x.1) (bytesL x.2) = true) (hv2 : verifyL fi.data.toList (messageL se sh fi [] y.1) (bytesL y.2) = true)
    (hmn : messageL se sh fi [] x.1 ≠ messageL se sh fi [] y.1) (ht : Tabs w) :
    Calls Tryd.prog 14 #[.agg #[.int .i64 se, .int .i64 sh, .int .i64 pl, .string fi, .slice A1 n c1], .agg #[.int .i64 se, .int .i64 sh, .int .i64 pl, .string fi, .slice A2 m c2]] w fun e w' => e = .returned (.bool true) ∧ Below w.heap.size w w' := by
  obtain ⟨b, off, tk, AS, ss, cs, rfl, hb, Hk, d0, d1, hti, hsi, HE⟩ := pick_tr h1 (k := 0) (by omega)
  obtain ⟨b', off', tk', AS', ss', cs', rfl, hb', Hk', d0', d1', hti', hsi', HE'⟩ := pick_tr h2 (k := 0) (by omega)
  obtain rfl : x = (tk, ss) := Option.some.inj (hx.symm.trans Hk.out)
  obtain rfl : y = (tk', ss') := Option.some.inj (hy.symm.trans Hk'.out)
  have q1 := hs1.2 _ (List.mem_of_getElem? Hk.out)
  have q2 := hs2.2 _ (List.mem_of_getElem? Hk'.out)
  have d0 : w.cell? ⟨b, off, none⟩ = some (.string tk) := by simpa using d0
  have d0' : w.cell? ⟨b', off', none⟩ = some (.string tk') := by simpa using d0'
  have d1 : w.cell? ⟨b, off + 1, none⟩ = some (.slice AS ss.length cs) := by simpa using d1
  have d1' : w.cell? ⟨b', off' + 1, none⟩ = some (.slice AS' ss'.length cs') := by simpa using d1'
  obtain ⟨M1, hM1⟩ : ∃ M : ByteArray, (⟨(messageL se sh fi [] tk).toArray⟩ : ByteArray) = M := ⟨_, rfl⟩
  obtain ⟨M2, hM2⟩ : ∃ M : ByteArray, (⟨(messageL se sh fi [] tk').toArray⟩ : ByteArray) = M := ⟨_, rfl⟩
  have hM : (M1.toList == M2.toList) = false := by
    rw [eq_bytes]
    refine decide_eq_false (fun e => hmn ?_)
    rw [← hM1, ← hM2] at e
    exact e
  have hMs : ∀ k : ByteArray, (⟨(messageL se sh fi [] k).toArray⟩ : ByteArray).size ≤ 9223372036854775807 := fun k => by rw [Lib.size_mk]; unfold messageL listL; rw [sumL_len]; omega
  have cc := fun (X : World) => cut_any 0 se sh pl fi (some ⟨b, off, none⟩) xa c1 X (by omega) (by omega) hc2
  have co := fun (X : World) => owner_any se sh pl fi (some ⟨b, off, none⟩) [] c1 X 0 Elems.nil (Nat.zero_le _) (by simp)
  have cm1 := fun (X : World) (htx : Tabs X) => message_any tk se sh pl fi (some ⟨b, off, none⟩) [] c1 X 0 Elems.nil (Nat.zero_le _) (by simp) hs1.1 (fun x hx => absurd hx (by simp)) q1.1 s1 s2 s3 s4 htx
  have cm2 := fun (X : World) (htx : Tabs X) => message_any tk' se sh pl fi (some ⟨b, off, none⟩) [] c1 X 0 Elems.nil (Nat.zero_le _) (by simp) hs1.1 (fun x hx => absurd hx (by simp)) q2.1 s1 s2 s3 s4 htx
  have cv1 := fun (X : World) (hX : Below w.heap.size w X) => verify_any fi M1 AS ss cs X B (HE.out.2.2.keep (hX.mono hB) (Nat.le_refl _)) (by have := hX.size; omega) q1.2.1 q1.2.2 (by rw [← hM1]; exact hMs _) (ht.below hX)
  have cv2 := fun (X : World) (hX : Below w.heap.size w X) => verify_any fi M2 AS' ss' cs' X B (HE'.out.2.2.keep (hX.mono hB) (Nat.le_refl _)) (by have := hX.size; omega) q2.2.1 q2.2.2 (by rw [← hM2]; exact hMs _) (ht.below hX)
  rw [← hM1] at cv1
  rw [← hM2] at cv2
  have e1 : verifyL fi.data.toList (⟨(messageL se sh fi [] tk).toArray⟩ : ByteArray).data.toList (bytesL ss) = true := hv1
  have e2 : verifyL fi.data.toList (⟨(messageL se sh fi [] tk').toArray⟩ : ByteArray).data.toList (bytesL ss') = true := hv2
  rw [e1, hM1] at cv1
  rw [e2, hM2] at cv2
  rw [hM1] at cm1
  rw [hM2] at cm2
  rw [n1] at cc
  simp only [List.length_nil] at co cm1 cm2
  rw [show ownerL fi [] = fi from rfl] at co
  have hhid := fun (X : World) (hX : Below w.heap.size w X) => ht.below hX
  have HC := Lib.hid (And.intro cc (And.intro co (And.intro cm1 (And.intro cm2 (And.intro cv1 (And.intro cv2 (And.intro hhid (Nat.le_refl 0))))))))
  have hxy' : (tk.toList == tk'.toList) = false := hxy
  have hnp : (0 : Int) < (n : Int) := by omega
  have hmp : (0 : Int) < (m : Int) := by omega
  have bw : b < w.heap.size := by omega
  have bw' : b' < w.heap.size := by omega
  clear cc co cm1 cm2 cv1 cv2 hhid e1 e2 hM1 hM2 hMs hmn hv1 hv2 hx hy n1 n2 h1 h2 hs1 hs2 ht q1 q2 hti hti' hsi hsi' hxy
  go_enter Tryd.func14, Tryd.ntmps14
  go_wp2_with fail
  go_loopw [5] (fun i wr => i = .int .i64 0 ∧ Below w.heap.size w wr ∧ Bk wr w.heap.size #[.int .i64 se, .int .i64 sh, .int .i64 pl, .string fi, .slice (some ⟨b, off, none⟩) n c1] 24 ∧ Bk wr (w.heap.size + 1) #[.int .i64 se, .int .i64 sh, .int .i64 pl, .string fi, .slice (some ⟨b', off', none⟩) m c2] 24) (fun i _ => 0)
  case atStart => exact ⟨rfl, by (repeat (first | with_reducible exact Below.refl _ _ | with_reducible assumption | with_reducible refine Below.alloc0 ?_ _ | with_reducible refine Below.ext0 ?_ _ | with_reducible refine Below.drew ?_ | with_reducible refine below_drewN ?_ _ | (with_reducible refine Below.setCell (hp := ?hp) ?_ _; case hp => (first | (simp; done) | (simp; omega))))), (Bk.new _ _ _).alloc _, bk_next _ _ _ _⟩
  case round =>
    obtain ⟨rfl, r1, r2, r3⟩ := hrel
    generalize wr = wA at *
    have t0 := r2.cell 0
    have t1 := r2.cell 1
    have t2 := r2.cell 2
    have t3 := r2.cell 3
    have t4 := r2.cell 4
    have tl := r2.lt
    have v4 := r3.cell 4
    have vl := r3.lt
    have x0 := (r1.cell (p := ⟨b, off, none⟩) bw).trans d0
    have x1 := (r1.cell (p := ⟨b, off + 1, none⟩) bw).trans d1
    have bA : b < wA.heap.size := by omega
    have HR := Lib.hid (And.intro r1 (And.intro r2 (And.intro r3 (And.intro d0' d1'))))
    clear r1 r2 r3 d0 d1 d0' d1'
    go_upto_region 5 with (fail)
    refine forget (fun Y => Below wA.heap.size wA Y ∧ Bk Y wA.heap.size #[.string tk, .slice AS ss.length cs] 27) ⟨below_self _ _, Bk.new _ _ _⟩ ?_
    rintro Y ⟨y1, y2⟩
    have zY := y1.size
    clear t0 t1 t2 t3 t4 v4 x0 x1
    have y3 := HR.out.2.1.below y1
    have y4 := HR.out.2.2.1.below y1
    have y5 := HR.out.1.trans (y1.mono (by omega))
    have t0 := y3.cell 0
    have v4 := y4.cell 4
    have x0 := (y5.cell (p := ⟨b', off', none⟩) bw').trans HR.out.2.2.2.1
    have x1 := (y5.cell (p := ⟨b', off' + 1, none⟩) bw').trans HR.out.2.2.2.2
    have bY : b' < Y.heap.size := by omega
    have wY : w.heap.size + 1 < Y.heap.size := by omega
    have HY := Lib.hid (And.intro y2 (And.intro y3 y5))
    clear y1 y2 y3 y4 y5 bA
    go_upto_region 6 with (fail)
    refine forget (fun Z => Below Y.heap.size Y Z ∧ Bk Z Y.heap.size #[.string tk', .slice AS' ss'.length cs'] 27) ⟨below_self _ _, Bk.new _ _ _⟩ ?_
    rintro Z ⟨z1, z2⟩
    have zZ := z1.size
    clear t0 v4 x0 x1
    have z3 := HY.out.1.below z1
    have z4 := HY.out.2.1.below z1
    have z5 := HY.out.2.2.trans (z1.mono (by omega))
    have t0 := z4.cell 0
    have t1 := z4.cell 1
    have t2 := z4.cell 2
    have t3 := z4.cell 3
    have t4 := z4.cell 4
    have x0 := z3.cell 0
    have x1 := z3.cell 1
    have y0 := z2.cell 0
    have y1 := z2.cell 1
    have lx := z3.lt
    have ly := z2.lt
    have lt := z4.lt
    have HZ := Lib.hid (And.intro z5 (And.intro z3 (And.intro z2 z4)))
    clear z1 z2 z3 z4 z5
    go_upto_region 8 with (go_at_call 11; refine Calls.mono (HC.out.1 _) ?_; rintro e w3 ⟨rfl, hbb⟩; have H3 := Lib.hid hbb; clear hbb)
    have z3 := H3.out.size
    have g1 : Below Z.heap.size Z (w3.alloc (.cells #[.int .i64 se, .int .i64 sh, .int .i64 pl, .string fi, .slice (some ⟨b, off, none⟩) 0 c1] 24)) := Below.alloc0 H3.out _
    refine forget (fun V => Below w.heap.size w V ∧ Bk V w3.heap.size #[.int .i64 se, .int .i64 sh, .int .i64 pl, .string fi, .slice (some ⟨b, off, none⟩) 0 c1] 24 ∧ Bk V wA.heap.size #[.string tk, .slice AS ss.length cs] 27 ∧ Bk V Y.heap.size #[.string tk', .slice AS' ss'.length cs'] 27) ⟨HZ.out.1.trans (g1.mono (by omega)), Bk.new _ _ _, HZ.out.2.1.below g1, HZ.out.2.2.1.below g1⟩ ?_
    generalize w3.heap.size = G3 at *
    clear g1 t0 t1 t2 t3 t4 x0 x1 y0 y1 lx ly lt H3 z3
    rintro V ⟨v1, v2, v3, v4⟩
    have t0 := v2.cell 0
    have t1 := v2.cell 1
    have t2 := v2.cell 2
    have t3 := v2.cell 3
    have t4 := v2.cell 4
    have x0 := v3.cell 0
    have x1 := v3.cell 1
    have y0 := v4.cell 0
    have y1 := v4.cell 1
    have lt := v2.lt
    have lx := v3.lt
    have ly := v4.lt
    have hBV := fun u => v1.trans ((below_ext V u).mono v1.size)
    have HV := Lib.hid (And.intro v1 hBV)
    clear v1 v2 v3 v4 hBV
    go_upto_region 9 with (go_at_call 9; refine Calls.mono (HC.out.2.1 _) ?_; rintro e w' ⟨rfl, hbb⟩; obtain ⟨u, rfl⟩ := ext_of hbb; clear hbb)
    go_upto_region 10 with (go_at_call 10; refine Calls.mono (HC.out.2.2.1 _ (HC.out.2.2.2.2.2.2.1 _ (HV.out.2 _))) ?_; rintro e w' ⟨rfl, hbb⟩; obtain ⟨u, rfl⟩ := ext_more hbb; clear hbb)
    go_upto_region 11 with (go_at_call 10; refine Calls.mono (HC.out.2.2.2.1 _ (HC.out.2.2.2.2.2.2.1 _ (HV.out.2 _))) ?_; rintro e w' ⟨rfl, hbb⟩; obtain ⟨u, rfl⟩ := ext_more hbb; clear hbb)
    go_upto_region 14 with (first
      | (go_at_call 8; (with_reducible refine Calls.mono (HC.out.2.2.2.2.1 _ (HV.out.2 _)) ?_); rintro e w' ⟨rfl, hbb⟩; obtain ⟨u, rfl⟩ := ext_more hbb; clear hbb)
      | (go_at_call 8; (with_reducible refine Calls.mono (HC.out.2.2.2.2.2.1 _ (HV.out.2 _)) ?_); rintro e w' ⟨rfl, hbb⟩; obtain ⟨u, rfl⟩ := ext_more hbb; clear hbb))
    go_quiet (fail)
    go_wp2_with fail
    go_ret
    exact ⟨rfl, below_drewN (HV.out.2 _) _⟩
end Go.Proofs.YtojkpoikamcgkaaDoor
