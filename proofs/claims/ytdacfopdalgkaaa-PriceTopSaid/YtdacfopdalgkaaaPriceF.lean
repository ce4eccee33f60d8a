/- Layer 17 (price): Quote. -/
import Derived.Test.YtdacfopdalgkaaaPriceE
namespace Go.Proofs.Ytdacfopdalgkaaa
open Go.RowKit
set_option linter.unusedVariables false
set_option linter.unusedSimpArgs false
attribute [local go_sem] ext_cell ext_frozen lt_ext ext_drew

theorem shareE_zero (num den : Int) : (shareE 0 num den == 0) = ratioB num den := by
  unfold shareE
  have h0 : validB 0 = true := by decide
  rw [h0, Int.zero_mul]
  by_cases h : ratioB num den = true
  · have := ratioB_out h
    rw [h, round_zero den (by omega), h0]
    rfl
  · rw [Bool.not_eq_true] at h
    rw [h]
    rfl
theorem ratioV_any (num den : Int) (w : World) : Calls Try.prog 21 #[.agg #[.int .i64 num, .int .i64 den]] w fun e w' => e = .returned (.bool (ratioB num den)) ∧ Below w.heap.size w w' := by
  go_enter Try.func21, Try.ntmps21
  go_wp2_with fail
  refine (share_any _ _ _ _).mono ?_
  rintro e w1 ⟨rfl, hb⟩
  have Hb := Lib.hid (((Below.refl _ w).alloc (Nat.le_refl _) _).trans (hb.mono (by simp)))
  clear hb
  have hz := shareE_zero num den
  go_wp2_with fail
  go_ret
  exact ⟨ret_bool (by first | exact hz | rfl | simp_all), Hb.out⟩
theorem ratioV_is (r : Bool) (num den : Int) (w : World) (h : Hid (ratioB num den = r)) : Calls Try.prog 21 #[.agg #[.int .i64 num, .int .i64 den]] w fun e w' => e = .returned (.bool r) ∧ Below w.heap.size w w' :=
  (ratioV_any num den w).mono fun e w' ⟨he, hw⟩ => ⟨by rw [he, h.out], hw⟩

abbrev tLine : Ty Ln := tPair tInt tInt

/-- A decision's cells. -/
def decCells (al to si : Bool) (lim price fn fd tn td cn cd sn sd rn rd y : Int) : Array Value :=
  #[.bool al, .bool to, .bool si, .int .i64 lim, .int .i64 price, .int .i64 fn, .int .i64 fd, .int .i64 tn, .int .i64 td, .int .i64 cn, .int .i64 cd, .int .i64 sn, .int .i64 sd, .int .i64 rn, .int .i64 rd, .int .i64 y]

/-- The bill after its first line, and after the further ones. -/
def nextB (s : BillS) (kind num den : Int) : BillS := if s.err = 0 then lineS s kind (shareV s.total num den) (shareE s.total num den) else s
def stB (n price fn fd tn td : Int) : Nat → BillS
  | 0 => lineS ⟨0, 0, []⟩ 1 (n * price) 0
  | 1 => nextB (lineS ⟨0, 0, []⟩ 1 (n * price) 0) 2 fn fd
  | _ => nextB (nextB (lineS ⟨0, 0, []⟩ 1 (n * price) 0) 2 fn fd) 3 tn td

/-- What Quote answers. -/
def Quoted (w : World) (err : Int) (ls : List Ln) (e : Ending) (w' : World) : Prop :=
  ∃ A cap, e = .returned (.tuple #[.agg #[.slice A ls.length cap, .int .i64 (sumOf ls)], .int .i64 err]) ∧ Elems tLine w' w'.heap.size A ls ∧ ls.length ≤ cap ∧ cap ≤ maxLen ∧ Fresh w.heap.size A ∧ Below w.heap.size w w'

theorem quoted_none (w w' : World) (err : Int) (hb : Below w.heap.size w w') (e : Ending) (he : e = .returned (.tuple #[.agg #[.slice none 0 0, .int .i64 0], .int .i64 err])) : Quoted w err [] e w' :=
  ⟨none, 0, he, Elems.nil, by simp, by simp [maxLen], fresh_none _, hb⟩

theorem quoteE_bad {al : Bool} {price fn fd tn td n : Int} (h : n < 1 ∨ 12 < n ∨ price < 0 ∨ validB price = false ∨ ratioB fn fd = false ∨ ratioB tn td = false) : quoteE al price fn fd tn td n = 1 := by
  unfold quoteE
  rw [if_neg]
  intro h'
  simp only [Bool.and_eq_true, decide_eq_true_eq] at h'
  obtain ⟨⟨⟨⟨⟨h1, h2⟩, h3⟩, h4⟩, h5⟩, h6⟩ := h'
  rcases h with h | h | h | h | h | h
  · omega
  · omega
  · omega
  · have := validB_no h; omega
  · rw [h] at h5; cases h5
  · rw [h] at h6; cases h6
theorem quoteL_err {al : Bool} {price fn fd tn td n e : Int} (h : quoteE al price fn fd tn td n = e) (he : e ≠ 0) : quoteL al price fn fd tn td n = [] := by
  unfold quoteL
  rw [if_neg (by rw [h]; exact he)]

theorem bel_bill (X : World) (o p : Obj) (u : World) : Below X.heap.size X (ext ((X.alloc o).alloc p) u) := (((Below.refl _ X).alloc (Nat.le_refl _) _).alloc (by simp) _).trans ((below_ext _ u).mono (by simp; omega))

set_option maxRecDepth 100000 in
set_option maxHeartbeats 4000000 in
theorem quote_bad (al to si : Bool) (lim price fn fd tn td cn cd sn sd rn rd y n : Int) (w : World) (h : n < 1 ∨ 12 < n ∨ price < 0 ∨ validB price = false ∨ ratioB fn fd = false ∨ ratioB tn td = false) :
    Calls Try.prog 10 #[.agg (decCells al to si lim price fn fd tn td cn cd sn sd rn rd y), .int .i64 n] w (Quoted w (quoteE al price fn fd tn td n) (quoteL al price fn fd tn td n)) := by
  have hE := quoteE_bad (al := al) h
  rw [quoteL_err hE (by decide), hE]
  clear hE
  unfold decCells
  obtain ⟨a, ha⟩ : ∃ a, validB price = a := ⟨_, rfl⟩
  obtain ⟨b, hb⟩ : ∃ b, ratioB fn fd = b := ⟨_, rfl⟩
  obtain ⟨c, hc⟩ : ∃ c, ratioB tn td = c := ⟨_, rfl⟩
  rw [ha, hb, hc] at h
  have Ha := Lib.hid ha
  have Hb := Lib.hid hb
  have Hc := Lib.hid hc
  clear ha hb hc
  rcases h with h | h | h | rfl | rfl | rfl
  all_goals
    go_enter Try.func10, Try.ntmps10
    go_wp2_with (first
      | (go_at_call 23; refine (valid_is _ _ _ Ha).mono ?_; rintro e w' ⟨rfl, rfl⟩)
      | (go_at_call 21; first | ((with_reducible refine (ratioV_is _ _ _ _ Hb).mono ?_); rintro e w' ⟨rfl, hb⟩; first | (obtain ⟨u, rfl⟩ := ext_more hb; clear hb) | (obtain ⟨u, rfl⟩ := ext_of hb; clear hb)) | ((with_reducible refine (ratioV_is _ _ _ _ Hc).mono ?_); rintro e w' ⟨rfl, hb⟩; first | (obtain ⟨u, rfl⟩ := ext_more hb; clear hb) | (obtain ⟨u, rfl⟩ := ext_of hb; clear hb))))
    all_goals (exact bodyPost_ret (v := .tuple #[.agg #[.slice none 0 0, .int .i64 0], .int .i64 1]) (by simp [results, Try.results10, go_sem]) rfl (quoted_none _ _ 1 (by (repeat (first | with_reducible exact Below.refl _ _ | with_reducible assumption | with_reducible refine Below.alloc0 ?_ _ | with_reducible refine Below.ext0 ?_ _ | with_reducible refine Below.drew ?_ | with_reducible refine below_drewN ?_ _ | (with_reducible refine Below.setCell (hp := ?hp) ?_ _; case hp => (first | (simp; done) | (simp; omega)))))) _ rfl))

set_option maxRecDepth 100000 in
set_option maxHeartbeats 4000000 in
theorem quote_denied (to si : Bool) (lim price fn fd tn td cn cd sn sd rn rd y n : Int) (w : World) (h1 : 1 ≤ n) (h2 : n ≤ 12) (h3 : 0 ≤ price) (h4 : Hid (validB price = true)) (h5 : Hid (ratioB fn fd = true)) (h6 : Hid (ratioB tn td = true)) :
    Calls Try.prog 10 #[.agg (decCells false to si lim price fn fd tn td cn cd sn sd rn rd y), .int .i64 n] w (Quoted w 15 []) := by
  unfold decCells
  go_enter Try.func10, Try.ntmps10
  go_wp2_with (first
    | (go_at_call 23; refine (valid_is _ _ _ h4).mono ?_; rintro e w' ⟨rfl, rfl⟩)
    | (go_at_call 21; first | ((with_reducible refine (ratioV_is _ _ _ _ h5).mono ?_); rintro e w' ⟨rfl, hb⟩; (first | (obtain ⟨u, rfl⟩ := ext_more hb; clear hb) | (obtain ⟨u, rfl⟩ := ext_more_alloc hb; clear hb) | (obtain ⟨u, rfl⟩ := ext_of hb; clear hb))) | ((with_reducible refine (ratioV_is _ _ _ _ h6).mono ?_); rintro e w' ⟨rfl, hb⟩; (first | (obtain ⟨u, rfl⟩ := ext_more hb; clear hb) | (obtain ⟨u, rfl⟩ := ext_more_alloc hb; clear hb) | (obtain ⟨u, rfl⟩ := ext_of hb; clear hb)))))
  exact bodyPost_ret (v := .tuple #[.agg #[.slice none 0 0, .int .i64 0], .int .i64 15]) (by simp [results, Try.results10, go_sem]) rfl (quoted_none _ _ 15 (by (repeat (first | with_reducible exact Below.refl _ _ | with_reducible assumption | with_reducible refine Below.alloc0 ?_ _ | with_reducible refine Below.ext0 ?_ _ | with_reducible refine Below.drew ?_ | with_reducible refine below_drewN ?_ _ | (with_reducible refine Below.setCell (hp := ?hp) ?_ _; case hp => (first | (simp; done) | (simp; omega)))))) _ rfl)
end Go.Proofs.Ytdacfopdalgkaaa
