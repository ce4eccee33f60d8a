/- Layer 30 (title) in plain words: a title with one more transfer; the titles that Pass hands on. -/
import Derived.Test.YtojkpoikamcgkaaDoorOwnV
namespace Go.Proofs.YtojkpoikamcgkaaDoor
open Go.RowKit Go.Shelf
set_option linter.unusedVariables false
set_option linter.unusedSimpArgs false

theorem stepB_left (se sh : Int) (fi : ByteArray) (ch : List Tr) (x : Tr) {k : Nat} (hk : k < ch.length) : stepB se sh fi (ch ++ [x]) k = stepB se sh fi ch k := by
  unfold stepB
  rw [List.getElem?_append_left hk, List.take_append_of_le_length (by omega)]
theorem stepB_last (se sh : Int) (fi : ByteArray) (ch : List Tr) (x : Tr) : stepB se sh fi (ch ++ [x]) ch.length = (!usedB fi ch x.1 && verifyL (ownerL fi ch).data.toList (messageL se sh fi ch x.1) (bytesL x.2)) := by
  unfold stepB
  rw [List.getElem?_append_right (Nat.le_refl _), Nat.sub_self, List.take_append_of_le_length (Nat.le_refl _), List.take_length]
  rfl
theorem ownerL_append (fi : ByteArray) (ch : List Tr) (x : Tr) : ownerL fi (ch ++ [x]) = x.1 := by
  unfold ownerL
  rw [List.getLast?_concat]
theorem headB_mono {se sh pl : Int} {fi : ByteArray} {n m : Nat} (h : headB se sh pl fi n = true) (hm : m ≤ n) : headB se sh pl fi m = true := by
  unfold headB at h ⊢
  simp only [Bool.and_eq_true, decide_eq_true_eq] at h ⊢
  obtain ⟨h1, h2⟩ := h
  exact ⟨h1, by omega⟩
/-- A title with one more transfer is valid just if it is valid without it, and the transfer is right. -/
theorem validB_append (se sh pl : Int) (fi : ByteArray) (ch : List Tr) (x : Tr) :
    validB se sh pl fi (ch ++ [x]) = (validB se sh pl fi ch && headB se sh pl fi (ch.length + 1) && formX x && (!usedB fi ch x.1 && verifyL (ownerL fi ch).data.toList (messageL se sh fi ch x.1) (bytesL x.2))) := by
  have hall : (List.range ch.length).all (stepB se sh fi (ch ++ [x])) = (List.range ch.length).all (stepB se sh fi ch) := by
    rw [Bool.eq_iff_iff, List.all_eq_true, List.all_eq_true]
    exact ⟨fun h k hk => by rw [← stepB_left se sh fi ch x (List.mem_range.1 hk)]; exact h k hk, fun h k hk => by rw [stepB_left se sh fi ch x (List.mem_range.1 hk)]; exact h k hk⟩
  unfold validB formedB
  rw [List.length_append, List.length_singleton, List.range_succ, List.all_append, List.all_append, hall, List.all_cons, List.all_nil, List.all_cons, List.all_nil, stepB_last]
  have hm : headB se sh pl fi (ch.length + 1) = true → headB se sh pl fi ch.length = true := fun h => headB_mono h (by omega)
  revert hm
  generalize headB se sh pl fi (ch.length + 1) = a
  generalize headB se sh pl fi ch.length = b
  generalize ch.all formX = c
  generalize formX x = d
  generalize (List.range ch.length).all (stepB se sh fi ch) = e
  generalize (!usedB fi ch x.1 && verifyL (ownerL fi ch).data.toList (messageL se sh fi ch x.1) (bytesL x.2)) = f
  revert a b c d e f
  decide

/-- The keys and the chains of some secrets. -/
def secT (ss : List ByteArray) (i : Nat) : ByteArray := ss.getD i ⟨#[]⟩
def keyT (ss : List ByteArray) (i : Nat) : ByteArray := mkB (publicL (secT ss i))
def chT (se sh : Int) (ss : List ByteArray) : Nat → List Tr
  | 0 => []
  | k + 1 => chT se sh ss k ++ [nextT se sh (keyT ss 0) (chT se sh ss k) (keyT ss (k + 1)) (secT ss k)]
theorem keyT_size (ss : List ByteArray) (i : Nat) : (keyT ss i).size = 16 := by
  unfold keyT mkB
  rw [Lib.size_mk, publicL_len]
theorem keyT_is (ss : List ByteArray) (i : Nat) : isL (keyT ss i).data.toList = true := publicL_is _
theorem chT_len (se sh : Int) (ss : List ByteArray) : ∀ k, (chT se sh ss k).length = k
  | 0 => rfl
  | k + 1 => by rw [chT, List.length_append, chT_len se sh ss k]; rfl
theorem chT_owner (se sh : Int) (ss : List ByteArray) : ∀ k, ownerL (keyT ss 0) (chT se sh ss k) = keyT ss k
  | 0 => rfl
  | k + 1 => by rw [chT, ownerL_append]; rfl
theorem chT_keys (se sh : Int) (ss : List ByteArray) : ∀ k, ∀ x ∈ chT se sh ss k, ∃ j, 1 ≤ j ∧ j ≤ k ∧ x.1 = keyT ss j
  | 0 => fun x hx => absurd hx (by simp [chT])
  | k + 1 => fun x hx => by
    rw [chT, List.mem_append, List.mem_singleton] at hx
    rcases hx with hx | rfl
    · obtain ⟨j, h1, h2, h3⟩ := chT_keys se sh ss k x hx
      exact ⟨j, h1, by omega, h3⟩
    · exact ⟨k + 1, by omega, Nat.le_refl _, rfl⟩
theorem sign_size {s : ByteArray} {m : List UInt8} : ∀ x ∈ (signL s m).map mkB, x.size = 16 := fun x hx => by
  obtain ⟨l, hl, rfl⟩ := List.mem_map.1 hx
  unfold mkB
  rw [Lib.size_mk]
  exact isL_len (List.all_eq_true.1 (walkL_is _ _) l hl)
theorem chT_small (se sh : Int) (ss : List ByteArray) : ∀ k, smallT (keyT ss 0) (chT se sh ss k)
  | 0 => ⟨by rw [keyT_size]; omega, fun x hx => absurd hx (by simp [chT])⟩
  | k + 1 => ⟨by rw [keyT_size]; omega, fun x hx => by
    rw [chT, List.mem_append, List.mem_singleton] at hx
    rcases hx with hx | rfl
    · exact (chT_small se sh ss k).2 x hx
    · refine ⟨by show (keyT ss (k + 1)).size ≤ 1000; rw [keyT_size]; omega, by show ((signL _ _).map mkB).length ≤ 1000; rw [List.length_map, signL_len]; omega, fun s hs => ?_⟩
      have := sign_size s hs
      omega⟩
theorem used_apart {fi : ByteArray} {ch : List Tr} {key : ByteArray} (h0 : fi.data.toList ≠ key.data.toList) (h : ∀ x ∈ ch, x.1.data.toList ≠ key.data.toList) : usedB fi ch key = false := by
  unfold usedB
  rw [eq_bytes, decide_eq_false h0, Bool.false_or, Bool.not_eq_false', List.all_eq_true]
  intro x hx
  rw [eq_bytes, decide_eq_false (h x hx)]
  rfl
/-- The keys of the first n secrets are apart. -/
def ApartT (ss : List ByteArray) (n : Nat) : Prop := ∀ i j, i < j → j < n → publicL (secT ss i) ≠ publicL (secT ss j)
theorem chT_free {se sh : Int} {ss : List ByteArray} {n : Nat} (ha : ApartT ss n) {k : Nat} (hk : k + 1 < n) : usedB (keyT ss 0) (chT se sh ss k) (keyT ss (k + 1)) = false := by
  refine used_apart (ha 0 (k + 1) (by omega) hk) (fun x hx => ?_)
  obtain ⟨j, h1, h2, h3⟩ := chT_keys se sh ss k x hx
  rw [h3]
  exact ha j (k + 1) (by omega) hk
theorem formX_next (se sh : Int) (fi : ByteArray) (ch : List Tr) (ss : List ByteArray) (i : Nat) (secret : ByteArray) : formX (nextT se sh fi ch (keyT ss i) secret) = true := by
  unfold formX nextT noneL
  have h1 : ((signL secret (messageL se sh fi ch (keyT ss i))).map mkB).length = 18 := by rw [List.length_map, signL_len]
  have h2 : ((signL secret (messageL se sh fi ch (keyT ss i))).map mkB).all (fun s => isL s.data.toList) = true := by
    rw [List.all_map]
    exact walkL_is _ _
  rw [h1, h2, keyT_is]
  rfl
theorem chT_valid {se sh pl : Int} {ss : List ByteArray} {n : Nat} (ha : ApartT ss n) (hh : ∀ k, k ≤ 50 → headB se sh pl (keyT ss 0) k = true) : ∀ k, k < n → k ≤ 50 → validB se sh pl (keyT ss 0) (chT se sh ss k) = true
  | 0, _, _ => by
    unfold validB formedB chT
    rw [List.length_nil, hh 0 (by omega)]
    rfl
  | k + 1, h1, h2 => by
    rw [chT, validB_append, chT_valid ha hh k (by omega) (by omega), chT_len, hh (k + 1) h2, formX_next]
    have e1 : (nextT se sh (keyT ss 0) (chT se sh ss k) (keyT ss (k + 1)) (secT ss k)).1 = keyT ss (k + 1) := rfl
    have e2 : bytesL (nextT se sh (keyT ss 0) (chT se sh ss k) (keyT ss (k + 1)) (secT ss k)).2 = signL (secT ss k) (messageL se sh (keyT ss 0) (chT se sh ss k) (keyT ss (k + 1))) := bytes_mkB _
    rw [e1, chT_free ha h1, chT_owner, e2]
    have : (keyT ss k).data.toList = publicL (secT ss k) := rfl
    rw [this, verify_sign]
    rfl
theorem headB_10001 (fi : ByteArray) (h : isL fi.data.toList = true) : ∀ k, k ≤ 50 → headB 10001 0 3 fi k = true := fun k hk => by
  unfold headB
  rw [h]
  simp [hk]
end Go.Proofs.YtojkpoikamcgkaaDoor
