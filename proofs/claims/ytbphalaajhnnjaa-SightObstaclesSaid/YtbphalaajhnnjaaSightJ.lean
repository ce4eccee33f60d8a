/- Layer 9 (sight): the chapter's examples, as every statement's head has them. -/
import Derived.Test.YtbphalaajhnnjaaSightI
import Derived.Test.YtbphalaajhnnjaaMake
namespace Go.Proofs.Ytbphalaajhnnjaa
open Go.RowKit
set_option linter.unusedVariables false
attribute [local go_sem] ext_cell ext_frozen lt_ext ext_drew

theorem ex1 : crossB 0 0 4 4 2 2 3 5 = true := by decide +kernel
theorem ex2 : crossB 0 0 4 4 0 1 0 9 = false := by decide +kernel
theorem ex3 : crossB 0 0 10 1 5 0 5 0 = false := by decide +kernel
theorem ex4 : crossB 0 0 10001 1 0 0 9 9 = false := by decide +kernel

abbrev hd0 : Hd := (none, 0, 0)
/-- The levels of the example. -/
def exL : List Lv := [(⟨#[]⟩, 0, hd0, hd0, hd0, [(500, 0, 501, 1)], hd0, 0), (⟨#[]⟩, 0, hd0, hd0, hd0, [], hd0, 0)]
theorem exV1 : viewZ (⟨#[]⟩, (0, 0), exL) 1 (1000, 0) = 0 := by decide +kernel
theorem exV2 : viewZ (⟨#[]⟩, (0, 0), exL) 0 (1001, 0) = 2 := by decide +kernel
theorem exV3 : viewZ (⟨#[]⟩, (0, 0), exL) 2 (0, 0) = 3 := by decide +kernel
theorem exFew : fewL exL := by
  intro l hl
  simp only [exL, List.mem_cons, List.not_mem_nil, or_false] at hl
  rcases hl with rfl | rfl <;> simp

theorem rd_int {w : World} {B : Nat} (x : Int) (h : fits x) : tInt.rd w B [.int .i64 x] x := ⟨rfl, h⟩
theorem rd_str {w : World} {B : Nat} (s : ByteArray) (h : s.size ≤ maxLen) : tStr.rd w B [.string s] s := ⟨rfl, h⟩
theorem rd_head {w : World} {B : Nat} (x : Hd) : tHead.rd w B [.slice x.1 x.2.1 x.2.2] x := rfl
theorem rd_nil {α : Type} {T : Ty α} {w : World} {B : Nat} : (tSlice T).rd w B [.slice none 0 0] [] := ⟨none, 0, rfl, by simp, by simp [maxLen], Elems.nil⟩

theorem exL_elems (X : World) (o : Obj) : Elems tLevel (((X.alloc (.cells #[.int .i64 500, .int .i64 0, .int .i64 501, .int .i64 1] 25)).alloc (.cells #[.string ⟨#[]⟩, .int .i64 0, .slice none 0 0, .slice none 0 0, .slice none 0 0, .slice (some ⟨X.heap.size, 0, none⟩) 1 1, .slice none 0 0,
      .int .i64 0, .string ⟨#[]⟩, .int .i64 0, .slice none 0 0, .slice none 0 0, .slice none 0 0, .slice none 0 0, .slice none 0 0, .int .i64 0] 51)).alloc o) (X.heap.size + 3) (some ⟨X.heap.size + 1, 0, none⟩) exL := by
  refine Elems.of_block [[.string ⟨#[]⟩, .int .i64 0, .slice none 0 0, .slice none 0 0, .slice none 0 0, .slice (some ⟨X.heap.size, 0, none⟩) 1 1, .slice none 0 0, .int .i64 0],
    [.string ⟨#[]⟩, .int .i64 0, .slice none 0 0, .slice none 0 0, .slice none 0 0, .slice none 0 0, .slice none 0 0, .int .i64 0]] (t := 51) ?_ (by omega) rfl ?_ rfl
  · rw [Below.heap_alloc _ _ _ (by simp)]
    have := heap_alloc_new (X.alloc (.cells #[.int .i64 500, .int .i64 0, .int .i64 501, .int .i64 1] 25)) (.cells #[.string ⟨#[]⟩, .int .i64 0, .slice none 0 0, .slice none 0 0, .slice none 0 0, .slice (some ⟨X.heap.size, 0, none⟩) 1 1, .slice none 0 0,
      .int .i64 0, .string ⟨#[]⟩, .int .i64 0, .slice none 0 0, .slice none 0 0, .slice none 0 0, .slice none 0 0, .slice none 0 0, .int .i64 0] 51)
    simpa using this
  · intro i hi
    have h2 : i = 0 ∨ i = 1 := by simp [exL] at hi; omega
    have hz : fits 0 := by simp [fits]
    have hs : (⟨#[]⟩ : ByteArray).size ≤ maxLen := by simp [maxLen, ByteArray.size]
    rcases h2 with rfl | rfl
    · refine tPair_mk (rd_str _ hs) (tPair_mk (rd_int _ hz) (tPair_mk (rd_head hd0) (tPair_mk (rd_head hd0) (tPair_mk (rd_head hd0) (tPair_mk (c1 := [.slice (some ⟨X.heap.size, 0, none⟩) 1 1]) (x := [(500, 0, 501, 1)]) ?_ (tPair_mk (rd_head hd0) (rd_int _ hz)))))))
      refine tSlice_mk (cap := 1) (xs := [((500 : Int), (0 : Int), (501 : Int), (1 : Int))]) (by simp) (by simp [maxLen]) ?_
      refine Elems.of_block [[.int .i64 500, .int .i64 0, .int .i64 501, .int .i64 1]] (t := 25) ?_ (by omega) rfl ?_ rfl
      · rw [Below.heap_alloc _ _ _ (by simp; omega), Below.heap_alloc _ _ _ (by simp)]
        exact heap_alloc_new _ _
      · intro i hi
        have : i = 0 := by simpa using hi
        subst this
        exact tPair_mk (rd_int _ (by simp [fits])) (tPair_mk (rd_int _ (by simp [fits])) (tPair_mk (rd_int _ (by simp [fits])) (rd_int _ (by simp [fits]))))
    · exact tPair_mk (rd_str _ hs) (tPair_mk (rd_int _ hz) (tPair_mk (rd_head hd0) (tPair_mk (rd_head hd0) (tPair_mk (rd_head hd0) (tPair_mk rd_nil (tPair_mk (rd_head hd0) (rd_int _ hz)))))))

theorem view_ex (r level px py : Int) (X u : World) (b B : Nat) (h : Hid (Elems tLevel X B (some ⟨b, 0, none⟩) exL)) (hB : B ≤ X.heap.size) (hpx : fits px) (hpy : fits py) (hr : viewZ (⟨#[]⟩, (0, 0), exL) level (px, py) = r) :
    Calls Try.prog 13 #[.agg #[.string ⟨#[]⟩, .int .i64 0, .int .i64 0, .slice (some ⟨b, 0, none⟩) 2 2], .int .i64 level, .agg #[.int .i64 px, .int .i64 py]] (ext X u) fun e w' => e = .returned (.int .i64 r) ∧ ∃ u', w' = ext X u' :=
  Calls.in_ext (view_any r ⟨#[]⟩ 0 0 _ exL 2 level px py _ B (h.out.ext hB u) (Nat.le_trans hB (size_ext X u)) (by simp [exL]) (by simp [fits]) (by simp [fits]) hpx hpy exFew hr)

set_option maxRecDepth 100000 in
set_option maxHeartbeats 2000000 in
theorem head_any (w : World) : Calls Try.prog 9 #[] w fun e w' => e = .returned (.bool true) ∧ Below w.heap.size w w' := by
  go_enter Try.func9, Try.ntmps9
  go_wp2_with (first
    | (go_at_call 15; refine (point_any _ _ _).mono ?_; rintro e w' ⟨rfl, hb⟩; first | (obtain ⟨u, rfl⟩ := ext_more hb; clear hb) | (obtain ⟨u, rfl⟩ := ext_of hb; clear hb))
    | (go_at_call 17; refine (box_any _ _ _ _ _).mono ?_; rintro e w' ⟨rfl, hb⟩; obtain ⟨u, rfl⟩ := ext_more hb; clear hb))
  refine (crosses_any true 0 0 4 4 2 2 3 5 _ (by show ∀ z ∈ _, _; simp [fits]) (Lib.hid ex1)).mono ?_
  rintro e w' ⟨rfl, hb⟩
  obtain ⟨u, rfl⟩ := ext_more hb
  clear hb
  go_wp2_with (first
    | (go_at_call 15; refine (point_any _ _ _).mono ?_; rintro e w' ⟨rfl, hb⟩; obtain ⟨u, rfl⟩ := ext_more hb; clear hb)
    | (go_at_call 17; refine (box_any _ _ _ _ _).mono ?_; rintro e w' ⟨rfl, hb⟩; obtain ⟨u, rfl⟩ := ext_more hb; clear hb))
  refine (crosses_any false 0 0 4 4 0 1 0 9 _ (by show ∀ z ∈ _, _; simp [fits]) (Lib.hid ex2)).mono ?_
  rintro e w' ⟨rfl, hb⟩
  obtain ⟨u, rfl⟩ := ext_more hb
  clear hb
  go_wp2_with (first
    | (go_at_call 15; refine (point_any _ _ _).mono ?_; rintro e w' ⟨rfl, hb⟩; obtain ⟨u, rfl⟩ := ext_more hb; clear hb)
    | (go_at_call 17; refine (box_any _ _ _ _ _).mono ?_; rintro e w' ⟨rfl, hb⟩; obtain ⟨u, rfl⟩ := ext_more hb; clear hb))
  refine (crosses_any false 0 0 10 1 5 0 5 0 _ (by show ∀ z ∈ _, _; simp [fits]) (Lib.hid ex3)).mono ?_
  rintro e w' ⟨rfl, hb⟩
  obtain ⟨u, rfl⟩ := ext_more hb
  clear hb
  go_wp2_with (first
    | (go_at_call 15; refine (point_any _ _ _).mono ?_; rintro e w' ⟨rfl, hb⟩; obtain ⟨u, rfl⟩ := ext_more hb; clear hb)
    | (go_at_call 17; refine (box_any _ _ _ _ _).mono ?_; rintro e w' ⟨rfl, hb⟩; obtain ⟨u, rfl⟩ := ext_more hb; clear hb))
  refine (crosses_any false 0 0 10001 1 0 0 9 9 _ (by show ∀ z ∈ _, _; simp [fits]) (Lib.hid ex4)).mono ?_
  rintro e w' ⟨rfl, hb⟩
  obtain ⟨u, rfl⟩ := ext_more hb
  clear hb
  go_wp2_with (first
    | (go_at_call 15; refine (point_any _ _ _).mono ?_; rintro e w' ⟨rfl, hb⟩; obtain ⟨u, rfl⟩ := ext_more hb; clear hb)
    | (go_at_call 17; refine (box_any _ _ _ _ _).mono ?_; rintro e w' ⟨rfl, hb⟩; obtain ⟨u, rfl⟩ := ext_more hb; clear hb))
  have hE := exL_elems (ext w u) (.cells #[.string ⟨#[]⟩, .int .i64 0, .int .i64 0, .slice (some ⟨(ext w u).heap.size + 1, 0, none⟩) 2 2] 28)
  have HE := Lib.hid hE
  clear hE
  have z0 : fits 0 := by simp [fits]
  have z1 : fits 1000 := by simp [fits]
  have z2 : fits 1001 := by simp [fits]
  refine wp_region_ext _ (by kernel_rfl) (by kernel_rfl) ?_
  repeat (go_big_quiet_step (first
    | (go_at_call 15; exact Calls.in_ext (point_any _ _ _))
    | (go_at_call 13; first
        | (with_reducible exact view_ex 0 1 1000 0 _ _ _ _ HE (by simp) z1 z0 exV1)
        | (with_reducible exact view_ex 2 0 1001 0 _ _ _ _ HE (by simp) z2 z0 exV2)
        | (with_reducible exact view_ex 3 2 0 0 _ _ _ _ HE (by simp) z0 z0 exV3))))
  refine wpQuiet_nil (fun v => ?_)
  go_wp2_with fail
  go_ret
  exact ⟨rfl, ext_below ((((below_ext w u).alloc (size_ext w u) _).alloc (by have := size_ext w u; simp; omega) _).alloc (by have := size_ext w u; simp; omega) _) (by have := size_ext w u; simp; omega) v⟩
end Go.Proofs.Ytbphalaajhnnjaa
