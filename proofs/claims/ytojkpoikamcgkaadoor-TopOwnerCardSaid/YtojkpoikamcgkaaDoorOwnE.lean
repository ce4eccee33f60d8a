/- Layer 2 (digest): List, Chain, Is. -/
import Derived.Test.YtojkpoikamcgkaaDoorOwnD
import Derived.Lib.AppendIntMem
import Derived.Lib.ItoaLen
namespace Go.Proofs.YtojkpoikamcgkaaDoor
open Go.RowKit
set_option linter.unusedVariables false
set_option linter.unusedSimpArgs false
attribute [local go_sem] ext_cell ext_frozen lt_ext ext_drew

/-- The tables that the library and the program read. -/
def PowTab (w : World) : Prop := Lib.TabIs Tryd.prog w "internal/strconv.uint64pow10" .u64 Lib.pow10Tab
def Tabs (w : World) : Prop := HexTab w ∧ PowTab w
theorem Tabs.below {w w' : World} (h : Tabs w) (hb : Below w.heap.size w w') : Tabs w' := ⟨h.1.below hb, Lib.tabBelow_of_tabIs h.2 w' hb⟩
theorem below_grow {B : Nat} (w : World) (os : Array Obj) (hB : B ≤ w.heap.size) : Below B w (Go.Sort.grow w os) :=
  ⟨rfl, rfl, rfl, by simp [Go.Sort.grow], fun k hk => by simp [Go.Sort.grow, Array.getElem?_append_left (show k < w.heap.size by omega)]⟩
theorem itoa_any (n : Int) (h0 : -9223372036854775808 ≤ n) (h1 : n ≤ 9223372036854775807) (w : World) (ht : Tabs w) :
    Calls Tryd.prog 22 #[.int .i64 n] w fun e w' => e = .returned (.string ⟨(Lib.itoa n).toArray⟩) ∧ Below w.heap.size w w' :=
  (Tryd.strconv_Itoa n h0 h1 w ht.2).mono fun e w' ⟨he, k, os, hw⟩ => ⟨he, by
    subst hw
    have h1 : Below w.heap.size w (w.drewN k) := below_drewN (Below.refl _ _) k
    exact h1.trans (below_grow _ os h1.size)⟩
theorem isBuilder_keep {T e : TypeId} {B b : Nat} {bs : List Value} {w w' : World} (h : Lib.IsBuilder T e B b bs w) (hb : Below w.heap.size w w') : Lib.IsBuilder T e B b bs w' := by
  have key : ∀ {p : Value}, Lib.BuilderAt T e B b p bs w → Lib.BuilderAt T e B b p bs w' := fun h => by
    obtain ⟨h1, v, h2, h3, h4⟩ := h
    have hlt : b < w.heap.size := Bk.lt h2
    exact ⟨h1, v, (hb.block b hlt).trans h2, own_keep h3 hb (fun g hg => own_lt h3 hg |>.2), h4⟩
  exact h.imp key key
theorem joinL_take {ls : List (List UInt8)} {k : Nat} {l : List UInt8} (h : ls[k]? = some l) : joinL (ls.take (k + 1)) = joinL (ls.take k) ++ (Lib.itoa l.length ++ 58 :: l) := by
  unfold joinL
  rw [List.take_add_one, h, List.flatMap_append]
  simp
theorem joinL_len {ls : List (List UInt8)} (h : ∀ l ∈ ls, l.length ≤ 1000) : (joinL ls).length ≤ 1022 * ls.length := by
  induction ls with
  | nil => simp [joinL]
  | cons l r ih =>
    have h1 := ih fun l hl => h l (by simp [hl])
    have h2 := h l (by simp)
    have h3 := Lib.itoa_length_le l.length (by omega) (by omega)
    have e : joinL (l :: r) = (Lib.itoa l.length ++ 58 :: l) ++ joinL r := by simp [joinL]
    rw [e, List.length_append, List.length_append, List.length_cons, List.length_cons]
    omega
theorem strCells_mk (l : List UInt8) : Lib.strCells ⟨l.toArray⟩ = Lib.byteCells l := by simp [Lib.strCells, Lib.byteCells]
abbrev bytesL (ls : List ByteArray) : List (List UInt8) := ls.map fun s => s.data.toList
set_option maxRecDepth 100000 in
set_option maxHeartbeats 2000000 in
theorem list_any (A : Option Addr) (ls : List ByteArray) (cap : Nat) (w : World) (B : Nat) (h : Elems tStr w B A ls) (hB : B ≤ w.heap.size) (hl : ls.length ≤ 1000) (hs : ∀ s ∈ ls, s.size ≤ 1000) (ht : Tabs w) :
    Calls Tryd.prog 21 #[.slice A ls.length cap] w fun e w' => e = .returned (.string ⟨(listL (bytesL ls)).toArray⟩) ∧ Below w.heap.size w w' := by
  have HH := Lib.hid (And.intro h (And.intro hs ht))
  clear h hs ht
  go_enter Tryd.func21, Tryd.ntmps21
  go_upto_region 2 with (fail)
  refine forget (fun X => Below w.heap.size w X ∧ Lib.IsBuilder 72 5 w.heap.size w.heap.size [] X) ⟨below_self _ _, Lib.fresh_isBuilder _ _ _⟩ ?_
  rintro X ⟨hX, hb⟩
  have HX := Lib.hid (And.intro hX hb)
  clear hX hb
  go_wp2_with fail
  go_loopw [5, 8] (fun _ i wr => ∃ k : Nat, k ≤ ls.length ∧ i = .int .i64 k ∧ Below w.heap.size w wr ∧ Lib.IsBuilder 72 5 w.heap.size w.heap.size (Lib.byteCells (joinL ((bytesL ls).take k))) wr) (fun _ i _ => ls.length - (intOf i).toNat)
  case atStart => exact ⟨0, by omega, rfl, HX.out.1, HX.out.2⟩
  case round =>
    obtain ⟨k, hk, rfl, hlow, hb⟩ := hrel
    generalize wr = wA at *
    have hz := hlow.size
    by_cases hlt : k < ls.length
    · obtain ⟨b, off, s, cs, rfl, hbB, _, Hx, _, ⟨rfl, _⟩, hc⟩ := (HH.out.1.keep (hlow.mono hB) (Nat.le_refl _)).pick hlt
      have c0 : wA.cell? ⟨b, off + k, none⟩ = some (.string s) := by
        have := hc 0 _ rfl
        have e : tStr.n = 1 := rfl
        simpa [e] using this
      have bw : b < wA.heap.size := by omega
      have hkl : (k : Int) < (ls.length : Int) := by omega
      have hss := HH.out.2.1 s (List.mem_of_getElem? Hx)
      have hIT := Lib.itoa_length_le (s.size : Int) (by omega) (by omega)
      have hst := joinL_take (ls := bytesL ls) (k := k) (l := s.data.toList) (by rw [List.getElem?_map, Hx]; rfl)
      have hjl := joinL_len (ls := (bytesL ls).take k) (fun l hl => by
        obtain ⟨s9, h9, rfl⟩ := List.mem_map.1 (List.mem_of_mem_take hl)
        have := HH.out.2.1 s9 h9
        simpa using this)
      have hjl2 : (joinL ((bytesL ls).take k)).length ≤ 1022000 := by
        have : ((bytesL ls).take k).length ≤ 1000 := by rw [List.length_take]; simp; omega
        omega
      have hlen : s.data.toList.length = s.size := by simp
      rw [hlen] at hst
      obtain ⟨IT, hI⟩ : ∃ I : ByteArray, I = ⟨(Lib.itoa s.size).toArray⟩ := ⟨_, rfl⟩
      have hIs : IT.size ≤ 21 := by rw [hI, Lib.size_mk]; exact hIT
      have hit := fun (w : World) (ht : Tabs w) => itoa_any (s.size : Int) (by omega) (by omega) w ht
      rw [← hI] at hit
      have hcells : Lib.byteCells (joinL ((bytesL ls).take k)) ++ Lib.strCells (IT ++ (⟨#[58]⟩ : ByteArray) ++ s) = Lib.byteCells (joinL ((bytesL ls).take (k + 1))) := by
        rw [hst, hI]
        simp [Lib.byteCells, Lib.strCells]
      have HA := Lib.hid (And.intro hlow (And.intro hb (And.intro hcells hit)))
      have hbl : (Lib.byteCells (joinL ((bytesL ls).take k))).length = (joinL ((bytesL ls).take k)).length := by simp [Lib.byteCells]
      have Hbl := Lib.hid (And.intro hbl hjl2)
      clear hlow hb hcells hit hI hst hIT hjl hjl2 hbl hc Hx
      go_wp2_with (first
        | (go_at_call 22; refine (HA.out.2.2.2 _ (HH.out.2.2.below HA.out.1)).mono ?_; rintro e w2 ⟨rfl, z1⟩; have HZ := Lib.hid z1; have hz2 := z1.size; clear z1)
        | (go_at_call 42; refine (Tryd.Builder_WriteString w.heap.size w.heap.size _ (IT ++ (⟨#[58]⟩ : ByteArray) ++ s) _ (isBuilder_keep HA.out.2.1 HZ.out) (by rw [Hbl.out.1]; have := Hbl.out.2; rw [ByteArray.size_append, ByteArray.size_append]; have : (⟨#[58]⟩ : ByteArray).size = 1 := rfl; omega) (by omega)).mono ?_; rintro e w3 ⟨rfl, z1, z2⟩; have HZ2 := Lib.hid (And.intro z1 z2); clear z1 z2))
      go_roundw
      case rel => exact ⟨k + 1, by omega, by go_num, HA.out.1.trans ((HZ.out.mono hz).trans HZ2.out.2), by rw [← HA.out.2.2.1]; exact .inr HZ2.out.1⟩
      case measure => simp [intOf]; omega
    · obtain rfl : k = ls.length := by omega
      have hl2 : (bytesL ls).take ls.length = bytesL ls := List.take_of_length_le (by simp)
      rw [hl2] at hb
      have hjl := joinL_len (ls := bytesL ls) (fun l hl => by
        obtain ⟨s9, h9, rfl⟩ := List.mem_map.1 hl
        have := HH.out.2.1 s9 h9
        simpa using this)
      have hjl2 : (joinL (bytesL ls)).length ≤ 1022000 := by
        have : (bytesL ls).length ≤ 1000 := by simpa using hl
        omega
      have HA := Lib.hid (And.intro hlow (And.intro hb (show listL (bytesL ls) = sumL (joinL (bytesL ls)) from rfl)))
      clear hlow hb hjl hl2
      generalize joinL (bytesL ls) = J at *
      go_wp2_with (first
        | (go_at_call 43; refine (Tryd.Builder_String_any w.heap.size w.heap.size J _ HA.out.2.1 hz).mono ?_; rintro e w2 ⟨rfl, z1⟩; have HZ := Lib.hid z1; clear z1)
        | (go_at_call 39; refine (sum_any ⟨J.toArray⟩ _ (by rw [Lib.size_mk]; omega) (HH.out.2.2.1.below (HA.out.1.trans HZ.out))).mono ?_; rintro e w3 ⟨rfl, z1⟩; have HZ2 := Lib.hid z1; clear z1))
      go_ret
      refine ⟨?_, (HA.out.1.trans HZ.out).trans (HZ2.out.mono (HA.out.1.trans HZ.out).size)⟩
      rw [HA.out.2.2]
      rfl
theorem dropWhile_all {α : Type} {p : α → Bool} : ∀ {l : List α}, l.all p = true → l.dropWhile p = []
  | [], _ => rfl
  | x :: l, h => by
    simp only [List.all_cons, Bool.and_eq_true] at h
    rw [List.dropWhile_cons_of_pos h.1, dropWhile_all h.2]
theorem dropWhile_some {α : Type} {p : α → Bool} {l : List α} (h : l.dropWhile p = []) : l.all p = true := by
  induction l with
  | nil => rfl
  | cons x l ih =>
    by_cases hx : p x = true
    · rw [List.dropWhile_cons_of_pos hx] at h
      simp [hx, ih h]
    · rw [List.dropWhile_cons_of_neg hx] at h; cases h
theorem trim_nil (l cs : List UInt8) : (Lib.trimS l cs = []) ↔ l.all (fun c => cs.contains c) = true := by
  unfold Lib.trimS Lib.trimLeftS Lib.trimRightS
  constructor
  · intro h
    have h1 := dropWhile_some h
    by_cases ha : (l.reverse.dropWhile (cs.contains ·)) = []
    · have := dropWhile_some ha
      simpa [List.all_eq_true] using this
    · exfalso
      obtain ⟨x, r, hxr⟩ := List.exists_cons_of_ne_nil ha
      have hx : cs.contains x = false := by
        have := List.head_dropWhile_not (p := (cs.contains ·)) (l := l.reverse) ha
        simp only [hxr, List.head_cons] at this
        simpa using this
      rw [hxr] at h1
      simp only [List.reverse_cons, List.all_append, List.all_cons, List.all_nil, Bool.and_true, Bool.and_eq_true] at h1
      rw [hx] at h1
      cases h1.2
  · intro h
    have : l.reverse.all (cs.contains ·) = true := by simpa [List.all_eq_true] using h
    rw [dropWhile_all this]
    rfl
set_option maxRecDepth 100000 in
set_option maxHeartbeats 1000000 in
theorem is_any (s : ByteArray) (w : World) (hs : s.size ≤ 9223372036854775807) :
    Calls Tryd.prog 19 #[.string s] w fun e w' => e = .returned (.bool (isL s.data.toList)) ∧ Below w.heap.size w w' := by
  have hlen : s.data.toList.length = s.size := by simp
  have htr := Tryd.strings_Trim_laid s (⟨#[48, 49, 50, 51, 52, 53, 54, 55, 56, 57, 97, 98, 99, 100, 101, 102]⟩ : ByteArray) w hs (by decide) (by
    intro j b hb
    have hm := List.mem_of_getElem? hb
    have := List.all_eq_true.1 (show (([48, 49, 50, 51, 52, 53, 54, 55, 56, 57, 97, 98, 99, 100, 101, 102] : List UInt8).all fun b => decide (b.toNat < 128)) = true by decide) b hm
    simpa using this)
  have ht9 := trim_nil s.data.toList [48, 49, 50, 51, 52, 53, 54, 55, 56, 57, 97, 98, 99, 100, 101, 102]
  obtain ⟨T, hT⟩ : ∃ T, Lib.trimS s.data.toList [48, 49, 50, 51, 52, 53, 54, 55, 56, 57, 97, 98, 99, 100, 101, 102] = T := ⟨_, rfl⟩
  rw [hT] at ht9
  have htr' : Calls Tryd.prog 41 #[.string s, .string ⟨#[48, 49, 50, 51, 52, 53, 54, 55, 56, 57, 97, 98, 99, 100, 101, 102]⟩] w fun e w' => e = .returned (.string ⟨T.toArray⟩) ∧ Below w.heap.size w w' := by rw [← hT]; exact htr
  have HT := Lib.hid (And.intro htr' ht9)
  have hisl : isL s.data.toList = (decide (s.size = 16) && decide (T = [])) := by
    unfold isL
    rw [hlen]
    congr 1
    rw [Bool.eq_iff_iff, decide_eq_true_eq, ht9]
    rfl
  have HI := Lib.hid hisl
  clear htr ht9 hT htr' hisl
  go_enter Tryd.func19, Tryd.ntmps19
  by_cases h16 : s.size = 16
  · have hb : ((s.size : Int) == 16) = true := by simpa using (show (s.size : Int) = 16 by omega)
    have h2 : ((⟨T.toArray⟩ : ByteArray).toList.isEmpty) = decide (T = []) := by
      rw [ByteArray.toList_eq]
      cases T <;> simp
    go_wp2_with (go_at_call 41; refine HT.out.1.mono ?_; rintro e w2 ⟨rfl, z1⟩; have HZ := Lib.hid z1; clear z1)
    go_ret
    exact ⟨by rw [HI.out]; simp [h16]; cases T <;> rfl, HZ.out⟩
  · have hb : ((s.size : Int) == 16) = false := by simpa using (show ¬ (s.size : Int) = 16 by omega)
    go_wp2_with fail
    go_ret
    exact ⟨by rw [HI.out]; simp [h16], Below.refl _ _⟩
set_option maxRecDepth 100000 in
set_option maxHeartbeats 1000000 in
theorem chain_any (s : ByteArray) (n : Nat) (w : World) (hn : n ≤ 1000) (hs : s.size ≤ 9223372036854775807) (ht : Tabs w) :
    Calls Tryd.prog 20 #[.string s, .int .i64 n] w fun e w' => e = .returned (.string ⟨(chainL n s.data.toList).toArray⟩) ∧ Below w.heap.size w w' := by
  have HT := Lib.hid ht
  clear ht
  have h0 : ¬ (n : Int) < 0 := by omega
  have h1 : ¬ (1000 : Int) < (n : Int) := by omega
  have h2 : (0 : Int) ≤ (n : Int) := by omega
  have h3 : (n : Int) ≤ 1000 := by omega
  go_enter Tryd.func20, Tryd.ntmps20
  go_wp2_with fail
  go_loopw [0, 8] (fun v i wr => ∃ k : Nat, k ≤ n ∧ i = .int .i64 k ∧ v = .string ⟨(chainL k s.data.toList).toArray⟩ ∧ Below w.heap.size w wr) (fun _ i _ => n - (intOf i).toNat)
  case atStart => exact ⟨0, by omega, rfl, rfl, Below.refl _ _⟩
  case round =>
    obtain ⟨k, hk, rfl, rfl, hlow⟩ := hrel
    generalize wr = wA at *
    have hz := hlow.size
    by_cases hlt : k < n
    · have hkl : (k : Int) < (n : Int) := by omega
      have hst := chainL_succ k s.data.toList
      have hsz : (⟨(chainL k s.data.toList).toArray⟩ : ByteArray).size ≤ 9223372036854775807 := by
        rw [Lib.size_mk]
        cases k with
        | zero => exact Nat.le_trans (Nat.le_of_eq (by simp [chainL])) hs
        | succ k => rw [chainL_succ, sumL_len]; omega
      have Hst := Lib.hid hst
      have HA := Lib.hid hlow
      clear hst hlow
      generalize chainL k s.data.toList = C at *
      go_wp2_with (go_at_call 39; refine (sum_any ⟨C.toArray⟩ _ hsz (HT.out.1.below HA.out)).mono ?_; rintro e w3 ⟨rfl, z1⟩; have HZ := Lib.hid z1; clear z1)
      go_roundw
      case rel => exact ⟨k + 1, by omega, by go_num, by rw [Hst.out], HA.out.trans (HZ.out.mono hz)⟩
      case measure => simp [intOf]; omega
    · obtain rfl : k = n := by omega
      have HA := Lib.hid hlow
      clear hlow
      go_wp2_with fail
      go_ret
      exact ⟨rfl, HA.out⟩
end Go.Proofs.YtojkpoikamcgkaaDoor
