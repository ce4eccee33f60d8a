/- Layer 12 (resolve): a name with z in it; whether a name of a hall has a dot. -/
import Derived.Test.YtecjhniomjmocaaResNp
import Derived.Test.YtecjhniomjmocaaResW
namespace Go.Proofs.Ytecjhniomjmocaa
open Go.RowKit Go.ChangeAt
set_option linter.unusedVariables false
set_option linter.unusedSimpArgs false
attribute [local go_sem] ext_cell ext_frozen lt_ext ext_drew

theorem byte_at {s : ByteArray} {k : Nat} (hk : k < s.size) : s.data.toList[k]? = some s[k] := by
  rw [Array.getElem?_toList, Array.getElem?_eq_getElem (show k < s.data.size from hk)]
  rfl
theorem byte_eq {s : ByteArray} {k : Nat} (hk : k < s.size) : (s[k] = 46) ↔ ((s[k].toNat : Nat) : Int) = 46 := by
  constructor
  · intro h; rw [h]; rfl
  · intro h
    have : s[k].toNat = 46 := by omega
    exact UInt8.toNat_inj.1 this
set_option maxRecDepth 100000 in
set_option maxHeartbeats 1000000 in
theorem dotted_any (s : ByteArray) (w : World) (hs : s.size ≤ 562949953421312) :
    Calls Try.prog 22 #[.string s] w fun e w' => e = .returned (.string (dotP s)) ∧ Below w.heap.size w w' := by
  go_enter Try.func22, Try.ntmps22
  go_wp2_with fail
  go_loop [3] (fun i => ∃ k : Nat, k ≤ s.size ∧ i = .int .i64 k ∧ 46 ∉ s.data.toList.take k) (fun i => s.size - (intOf i).toNat)
  case atStart => exact ⟨0, by omega, rfl, by simp⟩
  case round =>
    obtain ⟨k, hk, rfl, hno⟩ := hrel
    have Hno := Lib.hid hno
    clear hno
    by_cases hlt : k < s.size
    · have hkl : (k : Int) < (s.size : Int) := by omega
      by_cases h46 : s[k] = 46
      · have hb : (((s[k].toNat : Nat) : Int) == 46) = true := by simpa using (byte_eq hlt).1 h46
        have Hd := Lib.hid (dotP_at hlt (by rw [byte_at hlt, h46]) Hno.out)
        clear h46
        have hk1 : ((k : Int) + 1).toNat = k + 1 := by omega
        have hz1 : (s.extract 0 (k + 1)).size ≤ 562949953421312 := by rw [ByteArray.size_extract]; omega
        have hz2 : (s.extract (k + 1) s.size).size ≤ 562949953421312 := by rw [ByteArray.size_extract]; omega
        go_upto_region 5 with (fail)
        go_quiet (fail)
        go_wp2_with fail
        go_ret
        exact ⟨by rw [← Hd.out]; rfl, by (repeat (first | with_reducible exact Below.refl _ _ | with_reducible assumption | with_reducible refine Below.alloc0 ?_ _ | with_reducible refine Below.ext0 ?_ _ | with_reducible refine Below.drew ?_ | with_reducible refine below_drewN ?_ _ | (with_reducible refine Below.setCell (hp := ?hp) ?_ _; case hp => (first | (simp; done) | (simp; omega)))))⟩
      · have hb : (((s[k].toNat : Nat) : Int) == 46) = false := by simpa using fun h => h46 ((byte_eq hlt).2 h)
        have Hn := Lib.hid (show 46 ∉ s.data.toList.take (k + 1) by
          rw [List.take_add_one, byte_at hlt]
          simp only [Option.toList_some, List.mem_append, List.mem_singleton, not_or]
          exact ⟨Hno.out, fun h => h46 h.symm⟩)
        clear h46
        go_wp2_with fail
        go_round
        case rel => exact ⟨k + 1, by omega, by go_num, Hn.out⟩
        case measure => simp [intOf]; omega
    · obtain rfl : k = s.size := by omega
      have hn : hasDot s = false := decide_eq_false (by have := Hno.out; rwa [List.take_of_length_le (by simp)] at this)
      have Hd := Lib.hid (dotP_none hn)
      go_wp2_with fail
      go_ret
      exact ⟨by rw [Hd.out]; rfl, Below.refl _ _⟩
/-- The names of a hall are short. -/
def shortL (l : Le) : Prop := l.1.size ≤ 281474976710656 ∧ (∀ b ∈ l.2.2.1, b.1.size ≤ 281474976710656) ∧ ∀ b ∈ l.2.2.2.1, b.1.size ≤ 281474976710656
theorem hasDot_of {s : ByteArray} {k : Nat} (hk : k < s.size) (h : s[k] = 46) : hasDot s = true := by
  refine decide_eq_true ?_
  have := byte_at hk
  rw [h] at this
  exact List.mem_of_getElem? this
theorem strange_of {lh : List Le} {k : Nat} {l : Le} (h : lh[k]? = some l) (hs : strangeL l = true) : strangeB lh = true := by
  unfold strangeB
  rw [List.any_eq_true]
  exact ⟨l, List.mem_of_getElem? h, hs⟩
theorem any_takeG {α : Type} {xs : List α} {k : Nat} {x : α} (p : α → Bool) (h : xs[k]? = some x) : (xs.take (k + 1)).any p = ((xs.take k).any p || p x) := by
  rw [List.take_add_one, h, List.any_append]
  simp
set_option maxRecDepth 100000 in
set_option maxHeartbeats 4000000 in
theorem strange_any (hn : ByteArray) (x y : Int) (AH : Option Addr) (lh : List Le) (ch : Nat) (w : World) (B : Nat) (h : Elems tLe w B AH lh) (hB : B ≤ w.heap.size) (hm1 : lh.length ≤ 10) (hm2 : ∀ l ∈ lh, l.2.2.1.length + l.2.2.2.1.length ≤ 50) (hsh : ∀ l ∈ lh, shortL l) :
    Calls Try.prog 23 #[.agg #[.string hn, .int .i64 x, .int .i64 y, .slice AH lh.length ch]] w fun e w' => e = .returned (.bool (strangeB lh)) ∧ Below w.heap.size w w' := by
  have HH := Lib.hid (And.intro h (And.intro hm2 hsh))
  clear h hm2 hsh
  go_enter Try.func23, Try.ntmps23
  go_upto_region 1 with (fail)
  refine forget (fun X => Below w.heap.size w X ∧ Bk X w.heap.size #[.string hn, .int .i64 x, .int .i64 y, .slice AH lh.length ch] 29) ⟨by (repeat (first | with_reducible exact Below.refl _ _ | with_reducible assumption | with_reducible refine Below.alloc0 ?_ _ | with_reducible refine Below.ext0 ?_ _ | with_reducible refine Below.drew ?_ | with_reducible refine below_drewN ?_ _ | (with_reducible refine Below.setCell (hp := ?hp) ?_ _; case hp => (first | (simp; done) | (simp; omega))))), Bk.new w _ _⟩ ?_
  rintro W ⟨hW, b0⟩
  have HW := Lib.hid (And.intro hW b0)
  clear hW b0
  go_wp2_with fail
  go_loopw [3, 4, 5, 6, 7, 8] (fun i _ _ _ _ _ wr => ∃ k : Nat, k ≤ lh.length ∧ i = .int .i64 k ∧ (lh.take k).any strangeL = false ∧ Below W.heap.size W wr) (fun i _ _ _ _ _ _ => lh.length - (intOf i).toNat)
  case atStart => exact ⟨0, by omega, rfl, rfl, Below.refl _ _⟩
  case round =>
    obtain ⟨k, hk, rfl, hany, hlow⟩ := hrel
    generalize wr = wA at *
    have hzA := hlow.size
    have b0 := HW.out.2.below hlow
    have c0 : wA.cell? ⟨w.heap.size, 3, none⟩ = some (.slice AH lh.length ch) := b0.cell 3
    have l0 := b0.lt
    have HA := Lib.hid (And.intro hlow hany)
    clear hlow hany b0
    by_cases hlt : k < lh.length
    · obtain ⟨b, off, nm, ht, AB, bs, cb, AA, ars, ca, h1, h2, h3, att, rfl, hb, Hk, d0, d1, d2, d3, d4, d5, d6, d7, g1, g2, g3, EB, EA⟩ := pick_le (HH.out.1.keep ((Below.trans0 HW.out.1 HA.out.1).mono hB) (Nat.le_refl _)) hlt
      have hkl : (k : Int) < (lh.length : Int) := by omega
      have bw : b < wA.heap.size := by have := HW.out.1.size; omega
      have hsum := HH.out.2.1 _ (List.mem_of_getElem? Hk.out)
      obtain ⟨s1, s2, s3⟩ := HH.out.2.2 _ (List.mem_of_getElem? Hk.out)
      simp only at hsum s1 s2 s3
      have HS := Lib.hid (And.intro s2 s3)
      have hbl : bs.length ≤ 50 := by omega
      have hal : ars.length ≤ 50 := by omega
      have Hst := Lib.hid (any_takeG strangeL Hk.out)
      have Hdf := Lib.hid (show strangeL (nm, ht, bs, ars, h1, h2, h3, att) = (hasDot nm || bs.any (fun b => hasDot b.1) || ars.any (fun b => hasDot b.1)) from rfl)
      clear s2 s3
      go_upto_region 5 with (fail)
      refine forget (fun Y => Below wA.heap.size wA Y ∧ Bk Y wA.heap.size #[.string nm, .int .i64 ht, .slice AB bs.length cb, .slice AA ars.length ca, .slice h1.1 h1.2.1 h1.2.2, .slice h2.1 h2.2.1 h2.2.2, .slice h3.1 h3.2.1 h3.2.2, .int .i64 att] 70) ⟨below_self wA _, Bk.new wA _ _⟩ ?_
      rintro Y ⟨hY, bl⟩
      have e0 : Y.cell? ⟨wA.heap.size, 0, none⟩ = some (.string nm) := bl.cell 0
      have e2 : Y.cell? ⟨wA.heap.size, 2, none⟩ = some (.slice AB bs.length cb) := bl.cell 2
      have e3 : Y.cell? ⟨wA.heap.size, 3, none⟩ = some (.slice AA ars.length ca) := bl.cell 3
      have le := bl.lt
      have hwB : B ≤ wA.heap.size := by have := HW.out.1.size; omega
      have HE := Lib.hid (And.intro (EB.out.keep (hY.mono hwB) (Nat.le_refl _)) (And.intro (EA.out.keep (hY.mono hwB) (Nat.le_refl _)) hY))
      have hBY : B ≤ Y.heap.size := by have := hY.size; omega
      clear EB EA hY bl d0 d1 d2 d3 d4 d5 d6 d7 c0 l0 bw
      go_wp2_with fail
      go_loop [5, 6] (fun v i => ∃ (j : Nat) (s : ByteArray), j ≤ bs.length ∧ v = .string s ∧ i = .int .i64 j ∧ s.size ≤ (j + 1) * 281474976710656 ∧ hasDot s = (hasDot nm || (bs.take j).any (fun b => hasDot b.1))) (fun _ i => bs.length - (intOf i).toNat)
      case atStart => exact ⟨0, nm, by omega, rfl, rfl, by omega, by simp⟩
      case round =>
        obtain ⟨j, s, hj, rfl, rfl, hsz, hdot⟩ := hrel
        by_cases hlj : j < bs.length
        · obtain ⟨b2, off2, n2, q1, at2, rfl, hb2, Hj, k0, k1, k2, k3⟩ := pick_bl HE.out.1 hlj
          have hjl : (j : Int) < (bs.length : Int) := by omega
          have bw2 : b2 < Y.heap.size := by omega
          have hn2 : n2.size ≤ 281474976710656 := HS.out.1 _ (List.mem_of_getElem? Hj.out)
          have hnew := any_takeG (fun b : Bl => hasDot b.1) Hj.out
          have Hnew := Lib.hid (And.intro (show hasDot (s ++ n2) = (hasDot nm || (bs.take (j + 1)).any (fun b => hasDot b.1)) by rw [hasDot_app, hdot, hnew, Bool.or_assoc]) (show (s ++ n2).size ≤ (j + 1 + 1) * 281474976710656 by rw [ByteArray.size_append]; omega))
          clear hdot hnew
          have hs9 : s.size ≤ 16888498602639360 := by omega
          clear hsz
          go_wp2_with fail
          go_round
          case rel => exact ⟨j + 1, s ++ n2, by omega, rfl, by go_num, Hnew.out.2, Hnew.out.1⟩
          case measure => simp [intOf]; omega
        · obtain rfl : j = bs.length := by omega
          rw [List.take_length] at hdot
          have Hd := Lib.hid hdot
          clear hdot
          go_wp2_with fail
          go_loop [5, 7] (fun v i => ∃ (j : Nat) (s : ByteArray), j ≤ ars.length ∧ v = .string s ∧ i = .int .i64 j ∧ s.size ≤ (j + 60) * 281474976710656 ∧ hasDot s = ((hasDot nm || bs.any (fun b => hasDot b.1)) || (ars.take j).any (fun b => hasDot b.1))) (fun _ i => ars.length - (intOf i).toNat)
          case atStart => exact ⟨0, s, by omega, rfl, rfl, Nat.le_trans hsz (Nat.mul_le_mul_right _ (by omega)), by rw [Hd.out]; simp⟩
          case round =>
            clear hsz
            obtain ⟨j, s, hj, rfl, rfl, hsz, hdot⟩ := hrel
            by_cases hlj : j < ars.length
            · obtain ⟨b2, off2, n2, x1, x2, x3, x4, hd2, at2, rfl, hb2, Hj, k0, k1, k2, k3, k4, k5, k6, k7⟩ := pick_ar HE.out.2.1 hlj
              have hjl : (j : Int) < (ars.length : Int) := by omega
              have bw2 : b2 < Y.heap.size := by omega
              have hn2 : n2.size ≤ 281474976710656 := HS.out.2 _ (List.mem_of_getElem? Hj.out)
              have hnew := any_takeG (fun b : Ar => hasDot b.1) Hj.out
              have Hnew := Lib.hid (And.intro (show hasDot (s ++ n2) = ((hasDot nm || bs.any (fun b => hasDot b.1)) || (ars.take (j + 1)).any (fun b => hasDot b.1)) by rw [hasDot_app, hdot, hnew, ← Bool.or_assoc]) (show (s ++ n2).size ≤ (j + 1 + 60) * 281474976710656 by rw [ByteArray.size_append]; omega))
              clear hdot hnew
              have hs9 : s.size ≤ 33776997205278720 := by omega
              clear hsz
              go_wp2_with fail
              go_round
              case rel => exact ⟨j + 1, s ++ n2, by omega, rfl, by go_num, Hnew.out.2, Hnew.out.1⟩
              case measure => simp [intOf]; omega
            · obtain rfl : j = ars.length := by omega
              rw [List.take_length] at hdot
              have Hd := Lib.hid (hdot.trans Hdf.out.symm)
              have hs9 : s.size ≤ 33776997205278720 := by omega
              clear hdot hsz
              go_wp2_with fail
              go_loop [8] (fun i => ∃ k : Nat, k ≤ s.size ∧ i = .int .i64 k ∧ 46 ∉ s.data.toList.take k) (fun i => s.size - (intOf i).toNat)
              case atStart => exact ⟨0, by omega, rfl, by simp⟩
              case round =>
                obtain ⟨q, hq, rfl, hno⟩ := hrel
                have Hno := Lib.hid hno
                clear hno
                by_cases hlq : q < s.size
                · have hql : (q : Int) < (s.size : Int) := by omega
                  by_cases h46 : s[q] = 46
                  · have hb : (((s[q].toNat : Nat) : Int) == 46) = true := by simpa using (byte_eq hlq).1 h46
                    have Hr := Lib.hid (strange_of Hk.out (Hd.out.symm.trans (hasDot_of hlq h46)))
                    clear h46
                    go_wp2_with fail
                    go_ret
                    exact ⟨ret_bool Hr.out.symm, Below.trans0 HW.out.1 (Below.trans0 HA.out.1 HE.out.2.2)⟩
                  · have hb : (((s[q].toNat : Nat) : Int) == 46) = false := by simpa using fun h => h46 ((byte_eq hlq).2 h)
                    have Hn := Lib.hid (show 46 ∉ s.data.toList.take (q + 1) by
                      rw [List.take_add_one, byte_at hlq]
                      simp only [Option.toList_some, List.mem_append, List.mem_singleton, not_or]
                      exact ⟨Hno.out, fun h => h46 h.symm⟩)
                    clear h46
                    go_wp2_with fail
                    go_round
                    case rel => exact ⟨q + 1, by omega, by go_num, Hn.out⟩
                    case measure => simp [intOf]; omega
                · obtain rfl : q = s.size := by omega
                  have hn : hasDot s = false := decide_eq_false (by have := Hno.out; rwa [List.take_of_length_le (by simp)] at this)
                  have Hr := Lib.hid (show (lh.take (k + 1)).any strangeL = false by rw [Hst.out, HA.out.2, ← Hd.out, hn]; rfl)
                  go_wp2_with fail
                  go_roundw
                  case rel => exact ⟨k + 1, by omega, by go_num, Hr.out, HA.out.1.trans (HE.out.2.2.mono hzA)⟩
                  case measure => simp [intOf]; omega
    · obtain rfl : k = lh.length := by omega
      have hno := HA.out.2
      rw [List.take_length] at hno
      have Hno := Lib.hid (show strangeB lh = false from hno)
      clear hno
      go_wp2_with fail
      go_ret
      exact ⟨ret_bool Hno.out.symm, Below.trans0 HW.out.1 HA.out.1⟩
end Go.Proofs.Ytecjhniomjmocaa
