/- Layer 17 (price): Quote, where a bill is made. -/
import Derived.Test.YtdacfopdalgkaaaPriceF
namespace Go.Proofs.Ytdacfopdalgkaaa
open Go.RowKit
set_option linter.unusedVariables false
set_option linter.unusedSimpArgs false
attribute [local go_sem] ext_cell ext_frozen lt_ext ext_drew

theorem sumV_fits (a b : Int) : fits (sumV [a, b]) := by
  unfold sumV fits
  split
  · rename_i h; simp only [Bool.and_eq_true] at h; have := validB_out h.2; omega
  · omega
theorem lineS_fits {s : BillS} {kind n e : Int} (h : fits s.total) : fits (lineS s kind n e).total := by
  unfold lineS; split
  · exact sumV_fits _ _
  · exact h
theorem lineS_len {s : BillS} {kind n e : Int} : (lineS s kind n e).ls.length ≤ s.ls.length + 1 := by
  unfold lineS; split <;> simp
theorem nextB_fits {s : BillS} {kind num den : Int} (h : fits s.total) : fits (nextB s kind num den).total := by
  unfold nextB; split
  · exact lineS_fits h
  · exact h
theorem nextB_len {s : BillS} {kind num den : Int} : (nextB s kind num den).ls.length ≤ s.ls.length + 1 := by
  unfold nextB; split
  · exact lineS_len
  · omega
theorem stB_fits (n price fn fd tn td : Int) (k : Nat) : fits (stB n price fn fd tn td k).total ∧ (stB n price fn fd tn td k).ls.length ≤ 3 := by
  have f0 : fits (⟨0, 0, []⟩ : BillS).total := by simp [fits]
  have a0 := lineS_fits (kind := 1) (n := n * price) (e := 0) f0
  have l0 := lineS_len (s := ⟨0, 0, []⟩) (kind := 1) (n := n * price) (e := 0)
  have l1 := nextB_len (s := lineS ⟨0, 0, []⟩ 1 (n * price) 0) (kind := 2) (num := fn) (den := fd)
  have l2 := nextB_len (s := nextB (lineS ⟨0, 0, []⟩ 1 (n * price) 0) 2 fn fd) (kind := 3) (num := tn) (den := td)
  simp at l0
  match k with
  | 0 => exact ⟨a0, show (lineS ⟨0, 0, []⟩ 1 (n * price) 0).ls.length ≤ 3 by omega⟩
  | 1 => exact ⟨nextB_fits a0, show (nextB (lineS ⟨0, 0, []⟩ 1 (n * price) 0) 2 fn fd).ls.length ≤ 3 by omega⟩
  | k + 2 => exact ⟨nextB_fits (nextB_fits a0), show (nextB (nextB (lineS ⟨0, 0, []⟩ 1 (n * price) 0) 2 fn fd) 3 tn td).ls.length ≤ 3 by omega⟩
theorem BillIs.keep {w w' : World} {b base : Nat} {s : BillS} {o : Option Nat} (h : BillIs w b base s o) (hb : Below w.heap.size w w') : BillIs w' b base s o := by
  obtain ⟨v, h1, h2, h3⟩ := h
  exact ⟨v, h1.below hb, own_keep h2 hb (fun g hg => (own_lt h2 hg).2), h3⟩
theorem BillIs.lt {w : World} {b base : Nat} {s : BillS} {o : Option Nat} (h : BillIs w b base s o) : b < w.heap.size ∧ ∀ g, o = some g → base ≤ g ∧ g < w.heap.size := by
  obtain ⟨v, h1, h2, h3⟩ := h
  exact ⟨h1.lt, fun g hg => own_lt h2 (h3.trans hg)⟩
theorem own_form {w : World} {base : Nat} {e : TypeId} {size : Nat} {v : Value} {n : Nat} {xs : List Value} (h : w.ownsRow base e size v n xs) : ∃ A c, v = .slice A n c ∧ n ≤ c ∧ c ≤ maxLen := by
  rcases h.2 with ⟨rfl, rfl⟩ | ⟨g, cap, cur, rfl, _, _, h3, h4, _⟩
  · exact ⟨none, 0, rfl, Nat.le_refl _, by simp [maxLen]⟩
  · exact ⟨_, _, rfl, h3, h4⟩
theorem lineS_sum {s : BillS} {kind n e : Int} (h : sumOf s.ls = s.total) : sumOf (lineS s kind n e).ls = (lineS s kind n e).total := by
  unfold lineS
  split
  · rename_i hc
    have h2 := hc.2
    unfold sumE at h2
    have e1 : ([s.total, n].all validB && validB (sumI [s.total, n])) = true := by
      split at h2
      · split at h2
        · simp [*]
        · cases h2
      · cases h2
    show sumOf (s.ls ++ [(kind, n)]) = sumV [s.total, n]
    unfold sumV
    rw [if_pos e1, sumOf_append, h]
    simp [sumOf, sumI]
  · exact h
theorem nextB_sum {s : BillS} {kind num den : Int} (h : sumOf s.ls = s.total) : sumOf (nextB s kind num den).ls = (nextB s kind num den).total := by
  unfold nextB; split
  · exact lineS_sum h
  · exact h
theorem stB_sum (n price fn fd tn td : Int) (k : Nat) : sumOf (stB n price fn fd tn td k).ls = (stB n price fn fd tn td k).total := by
  have a0 : sumOf (lineS ⟨0, 0, []⟩ 1 (n * price) 0).ls = (lineS ⟨0, 0, []⟩ 1 (n * price) 0).total := lineS_sum rfl
  match k with
  | 0 => exact a0
  | 1 => exact nextB_sum a0
  | k + 2 => exact nextB_sum (nextB_sum a0)
theorem lines_elems {w : World} {base : Nat} {A : Option Addr} {c : Nat} {ls : List Ln} (h : w.ownsRow base 38 2 (.slice A ls.length c) ls.length (lineCells ls)) (hf : ∀ l ∈ ls, fits l.1 ∧ fits l.2) : Elems tLine w w.heap.size A ls := by
  cases ls with
  | nil => exact Elems.nil
  | cons l0 ls0 =>
    obtain ⟨g, cur, rfl, _, hg, _⟩ := own_block h (by simp)
    refine own_elems (T := tLine) h hg (by simp [lineCells]) (fun i hi => ?_)
    have hm := hf _ (List.getElem_mem hi)
    simp only [List.getElem_map]
    exact tPair_mk (c1 := [.int .i64 _]) (c2 := [.int .i64 _]) ⟨rfl, hm.1⟩ ⟨rfl, hm.2⟩
theorem stB_line {s : BillS} {kind n e : Int} (hs : ∀ l ∈ s.ls, fits l.1 ∧ fits l.2) (hk : fits kind) (hn : fits n) : ∀ l ∈ (lineS s kind n e).ls, fits l.1 ∧ fits l.2 := by
  unfold lineS
  split
  · intro l hl
    simp only [List.mem_append, List.mem_cons, List.not_mem_nil, or_false] at hl
    rcases hl with hl | rfl
    · exact hs l hl
    · exact ⟨hk, hn⟩
  · exact hs
theorem shareV_fits (n num den : Int) : fits (shareV n num den) := by
  unfold shareV fits
  split
  · rename_i h; simp only [Bool.and_eq_true] at h; have := validB_out h.2; omega
  · omega
theorem nextB_line {s : BillS} {kind num den : Int} (hs : ∀ l ∈ s.ls, fits l.1 ∧ fits l.2) (hk : fits kind) : ∀ l ∈ (nextB s kind num den).ls, fits l.1 ∧ fits l.2 := by
  unfold nextB; split
  · exact stB_line hs hk (shareV_fits _ _ _)
  · exact hs
theorem stB_lines (n price fn fd tn td : Int) (h : fits (n * price)) (k : Nat) : ∀ l ∈ (stB n price fn fd tn td k).ls, fits l.1 ∧ fits l.2 := by
  have a0 : ∀ l ∈ (lineS ⟨0, 0, []⟩ 1 (n * price) 0).ls, fits l.1 ∧ fits l.2 := stB_line (by simp) (by simp [fits]) h
  match k with
  | 0 => exact a0
  | 1 => exact nextB_line a0 (by simp [fits])
  | k + 2 => exact nextB_line (nextB_line a0 (by simp [fits])) (by simp [fits])
theorem below_self (w : World) (o : Obj) : Below w.heap.size w (w.alloc o) := (Below.refl _ w).alloc (Nat.le_refl _) o

set_option maxRecDepth 100000 in
set_option maxHeartbeats 1000000 in
theorem quote_ok (to si : Bool) (lim price fn fd tn td cn cd sn sd rn rd y n : Int) (w : World) (h1 : 1 ≤ n) (h2 : n ≤ 12) (h3 : 0 ≤ price) (h4 : Hid (validB price = true)) (h5 : Hid (ratioB fn fd = true)) (h6 : Hid (ratioB tn td = true)) (hE : Hid (quoteE true price fn fd tn td n = (stB n price fn fd tn td 2).err))
    (hL : Hid (quoteL true price fn fd tn td n = if (stB n price fn fd tn td 2).err = 0 then (stB n price fn fd tn td 2).ls else [])) :
    Calls Try.prog 10 #[.agg (decCells true to si lim price fn fd tn td cn cd sn sd rn rd y), .int .i64 n] w (Quoted w (quoteE true price fn fd tn td n) (quoteL true price fn fd tn td n)) := by
  unfold decCells
  have hp := validB_out h4.out
  obtain ⟨p1, p2⟩ := mul_bd (a := price) (b := n) (A := 1000000000) (B := 12) (by omega) hp.2 (by omega) h2
  have ec : price * n = n * price := Int.mul_comm ..
  rw [ec] at p1 p2
  clear hp ec
  go_enter Try.func10, Try.ntmps10
  go_upto_region 6 with (first
    | (go_at_call 23; refine (valid_is _ _ _ h4).mono ?_; rintro e w' ⟨rfl, rfl⟩)
    | (go_at_call 21; first | ((with_reducible refine (ratioV_is _ _ _ _ h5).mono ?_); rintro e w' ⟨rfl, hb⟩; (first | (obtain ⟨u, rfl⟩ := ext_more hb; clear hb) | (obtain ⟨u, rfl⟩ := ext_more_alloc hb; clear hb) | (obtain ⟨u, rfl⟩ := ext_of hb; clear hb))) | ((with_reducible refine (ratioV_is _ _ _ _ h6).mono ?_); rintro e w' ⟨rfl, hb⟩; (first | (obtain ⟨u, rfl⟩ := ext_more hb; clear hb) | (obtain ⟨u, rfl⟩ := ext_more_alloc hb; clear hb) | (obtain ⟨u, rfl⟩ := ext_of hb; clear hb)))))
  refine forget (fun W => Below w.heap.size w W ∧ Bk W w.heap.size #[.bool true, .bool to, .bool si, .int .i64 lim, .int .i64 price, .int .i64 fn, .int .i64 fd, .int .i64 tn, .int .i64 td, .int .i64 cn, .int .i64 cd, .int .i64 sn, .int .i64 sd, .int .i64 rn, .int .i64 rd, .int .i64 y] 25 ∧ Bk W (w.heap.size + 1) #[.slice none 0 0, .int .i64 0] 28) ⟨?_, ?_, ?_⟩ ?_
  · (repeat (first | with_reducible exact Below.refl _ _ | with_reducible assumption | with_reducible refine Below.alloc0 ?_ _ | with_reducible refine Below.ext0 ?_ _ | with_reducible refine Below.drew ?_ | with_reducible refine below_drewN ?_ _ | (with_reducible refine Below.setCell (hp := ?hp) ?_ _; case hp => (first | (simp; done) | (simp; omega)))))
  · exact ((Bk.new w _ _).alloc _).ext _
  · exact (bk_next w _ _ _).ext _
  rintro W ⟨hw, bD, bR⟩
  have cD := bD.cell
  have lD := bD.lt
  have lR := bR.lt
  go_wp2_with fail
  have b0 : BillIs (W.alloc (.cells #[.slice none 0 0, .int .i64 0, .int .i64 0] 50)) W.heap.size (W.heap.size + 1) ⟨0, 0, []⟩ none := ⟨_, Bk.new _ _ _, own_nil, rfl⟩
  have fp : fits (n * price) := by unfold fits; omega
  refine (line_any _ W.heap.size (W.heap.size + 1) ⟨0, 0, []⟩ none 1 (n * price) 0 b0 (by omega) (by simp) ⟨by simp [fits], fp⟩ (by simp)).mono ?_
  rintro e w2 ⟨rfl, hon, o, hB0, ho⟩
  clear cD
  have bD2 := (bD.alloc (.cells #[.slice none 0 0, .int .i64 0, .int .i64 0] 50)).only hon (by simp; omega)
  have bR2 := (bR.alloc (.cells #[.slice none 0 0, .int .i64 0, .int .i64 0] 50)).only hon (by simp; omega)
  have hw2 : Below w.heap.size w w2 := (Below.alloc0 hw _).trans (hon.to_below (by simp; omega) (by simp; omega))
  have hbz : W.heap.size < w2.heap.size := by have := hon.size; simp at this; omega
  have Hz := Lib.hid hbz
  have lt2 : w.heap.size + 1 < W.heap.size := lR
  have cD := bD2.cell
  have lD2 := bD2.lt
  clear b0 hon ho hw bD bR lD lR fp
  generalize W.heap.size = b at *
  go_wp2_with fail
  obtain ⟨L, hL2⟩ : ∃ L, w2.heap.size = L := ⟨_, rfl⟩
  rw [hL2]
  have HL2 := Lib.hid hL2
  clear hL2
  have lt1 : b < L := by rw [← HL2.out]; exact Hz.out
  go_loopw [8, 9, 57] (fun _ _ i wr => ∃ (k : Nat) (o : Option Nat), k ≤ 2 ∧ i = .int .i64 k ∧ BillIs wr b (b + 1) (stB n price fn fd tn td k) o ∧ o ≠ some L ∧ Bk wr L #[.int .i64 fn, .int .i64 fd, .int .i64 tn, .int .i64 td] 23 ∧ Bk wr (w.heap.size + 1) #[.slice none 0 0, .int .i64 0] 28 ∧ Below w.heap.size w wr) (fun _ _ i _ => 2 - (intOf i).toNat)
  case atStart => exact ⟨0, o, by omega, rfl, hB0.keep (below_self _ _), fun e => by have := hB0.lt.2 L e; have := HL2.out; omega, by rw [← HL2.out]; exact Bk.new _ _ _, bR2.alloc _, Below.alloc0 hw2 _⟩
  case round =>
    clear hB0 bD2 bR2 hw2 cD lD2
    obtain ⟨k, o, hk, rfl, hB, hoL, bL, bR, hwr⟩ := hrel
    have HR := Lib.hid bR
    have HW := Lib.hid hwr
    clear bR hwr
    obtain ⟨fs, fl⟩ := stB_fits n price fn fd tn td k
    by_cases h2 : k < 2
    · obtain ⟨num, den, e0, e1, HN⟩ : ∃ num den, wr.cell? ⟨L, k * 2, none⟩ = some (.int .i64 num) ∧ wr.cell? ⟨L, k * 2 + 1, none⟩ = some (.int .i64 den) ∧ Hid (stB n price fn fd tn td (k + 1) = nextB (stB n price fn fd tn td k) (2 + k) num den) := by
        rcases (show k = 0 ∨ k = 1 by omega) with rfl | rfl
        · exact ⟨fn, fd, by rw [bL.cell]; rfl, by rw [bL.cell]; rfl, rfl⟩
        · exact ⟨tn, td, by rw [bL.cell]; rfl, by rw [bL.cell]; rfl, rfl⟩
      generalize stB n price fn fd tn td k = s at *
      have HB := Lib.hid hB
      obtain ⟨v, bB, own, ho⟩ := hB
      have cB := bB.cell
      have lB := bB.lt
      have lL := bL.lt
      have HbL := Lib.hid bL
      clear own ho bL
      by_cases he : s.err = 0
      · go_wp2_with fail
        have hsz := HB.out.lt.2
        refine (add_any _ b (b + 1) s o (2 + k) num den (HB.out.keep (below_self _ _)) (by omega) (by simp; omega) fs (by omega)).mono ?_
        rintro e w3 ⟨rfl, hon, o', hB3, ho'⟩
        go_wp2_with fail
        go_roundw
        case rel =>
          refine ⟨k + 1, o', by omega, by go_num, ?_, ?_, ?_, ?_, ?_⟩
          · rw [HN.out]; unfold nextB; rw [if_pos he]; exact hB3
          · rcases ho' with h | ⟨g, h, hg⟩
            · rw [h]; exact hoL
            · rw [h]; intro e; injection e with e; simp at hg; omega
          · exact (HbL.out.alloc _).only hon (by intro h; rcases h with h | h; omega; exact hoL h)
          · exact (HR.out.alloc _).only hon (by intro h; rcases h with h | h; omega; have := hsz _ h; omega)
          · exact (Below.alloc0 HW.out _).trans (hon.to_below (by intro g h; rcases h with h | h; omega; have := hsz _ h; omega) (by simp; have := HW.out.size; omega))
        case measure => simp [intOf]; omega
      · go_wp2_with fail
        go_roundw
        case rel =>
          refine ⟨k + 1, o, by omega, by go_num, ?_, hoL, ?_, ?_, ?_⟩
          · rw [HN.out]; unfold nextB; rw [if_neg he]; exact HB.out.keep (below_self _ _)
          · exact HbL.out.alloc _
          · exact HR.out.alloc _
          · exact Below.alloc0 HW.out _
        case measure => simp [intOf]; omega
    · obtain rfl : k = 2 := by omega
      have HLs := Lib.hid (stB_lines n price fn fd tn td (by unfold fits; omega) 2)
      have HSum := stB_sum n price fn fd tn td 2
      generalize stB n price fn fd tn td 2 = s at *
      have HS := Lib.hid HSum
      clear HSum
      have HB := Lib.hid hB
      obtain ⟨v, bB, own, ho⟩ := hB
      have cB := bB.cell
      have lB := bB.lt
      have bRo := HR.out
      have cR := bRo.cell
      have fR := bRo.free
      have lR := bRo.lt
      obtain ⟨A, c, rfl, hc1, hc2⟩ := own_form own
      have Ho := Lib.hid own
      clear own ho bL bRo
      by_cases he : s.err = 0
      · go_wp2_with fail
        exact bodyPost_ret (v := .tuple #[.agg #[.slice A s.ls.length c, .int .i64 s.total], .int .i64 0]) (by simp [results, Try.results10, go_sem, *]) rfl (by
          rw [hE.out, hL.out, if_pos he, he, ← HS.out]
          have hset : Below w.heap.size wr _ := ((Below.refl w.heap.size wr).setCell (p := ⟨w.heap.size + 1, 0, none⟩) (by simp) (.slice A s.ls.length c)).setCell (p := ⟨w.heap.size + 1, 1, none⟩) (by simp) (.int .i64 (sumOf s.ls))
          refine ⟨A, c, rfl, ?_, hc1, hc2, (fun g off sp hA => by have := own_lt Ho.out (g := g) (by rw [hA]; rfl); omega), ?_⟩
          · have h2 := own_only Ho.out (((Only.refl (fun g => g = w.heap.size + 1) wr).set_ (p := ⟨w.heap.size + 1, 0, none⟩) (.inl rfl) (.slice A s.ls.length c)).set_ (p := ⟨w.heap.size + 1, 1, none⟩) (.inl rfl) (.int .i64 (sumOf s.ls))) (fun g hg e => by have := own_lt Ho.out hg; omega)
            exact lines_elems h2 HLs.out
          · exact HW.out.trans hset)
      · go_wp2_with fail
        go_region
        all_goals go_wp2_with fail
        all_goals (exact bodyPost_ret (v := .tuple #[.agg #[.slice none 0 0, .int .i64 0], .int .i64 s.err]) (by simp [results, Try.results10, go_sem, *]) rfl (by
          rw [hE.out, hL.out, if_neg he]
          refine quoted_none _ _ _ ?_ _ rfl
          exact HW.out.trans (by (repeat (first | with_reducible exact Below.refl _ _ | with_reducible assumption | with_reducible refine Below.alloc0 ?_ _ | with_reducible refine Below.ext0 ?_ _ | with_reducible refine Below.drew ?_ | with_reducible refine below_drewN ?_ _ | (with_reducible refine Below.setCell (hp := ?hp) ?_ _; case hp => (first | (simp; done) | (simp; omega))))))))

theorem lineS_zero {t k n : Int} {ls : List Ln} (ht : validB t = true) : lineS ⟨t, 0, ls⟩ k n 0 = if validB n && validB (t + n) then ⟨t + n, 0, ls ++ [(k, n)]⟩ else ⟨t, 2, ls⟩ := by
  unfold lineS sumE sumV
  simp only [List.all_cons, List.all_nil, Bool.and_true, ht, Bool.true_and, sumI, List.foldl_cons, List.foldl_nil, Int.zero_add]
  cases h1 : validB n <;> cases h2 : validB (t + n) <;> simp [h1, h2]
theorem nextB_zero {t k num den : Int} {ls : List Ln} (ht : validB t = true) (hr : ratioB num den = true) :
    nextB ⟨t, 0, ls⟩ k num den = if validB (roundP (t * num) den) && validB (t + roundP (t * num) den) then ⟨t + roundP (t * num) den, 0, ls ++ [(k, roundP (t * num) den)]⟩ else ⟨t, 2, ls⟩ := by
  unfold nextB
  rw [if_pos rfl]
  obtain ⟨e1, e2⟩ := share_is (v := roundP (t * num) den) ht hr rfl
  rw [e1, e2]
  cases h1 : validB (roundP (t * num) den)
  · simp only [Bool.false_eq_true, if_false, Bool.false_and]
    unfold lineS
    rw [if_neg (by simp)]
  · simp only [if_true, Bool.true_and]
    rw [lineS_zero ht, h1, Bool.true_and]
theorem nextB_err {s : BillS} {k num den : Int} (h : s.err ≠ 0) : nextB s k num den = s := by
  unfold nextB; rw [if_neg h]

theorem stB_quote (n price fn fd tn td : Int) (h1 : 1 ≤ n) (h2 : n ≤ 12) (h3 : 0 ≤ price) (h4 : validB price = true) (h5 : ratioB fn fd = true) (h6 : ratioB tn td = true) :
    quoteE true price fn fd tn td n = (stB n price fn fd tn td 2).err ∧ quoteL true price fn fd tn td n = if (stB n price fn fd tn td 2).err = 0 then (stB n price fn fd tn td 2).ls else [] := by
  have hp := validB_out h4
  have hc : (decide (1 ≤ n) && decide (n ≤ 12) && decide (0 ≤ price) && decide (price ≤ 1000000000) && ratioB fn fd && ratioB tn td) = true := by
    rw [h5, h6]; simp; omega
  have hv0 : validB 0 = true := by decide
  have hE : quoteE true price fn fd tn td n = (stB n price fn fd tn td 2).err ∧ ((stB n price fn fd tn td 2).err = 0 → (stB n price fn fd tn td 2).ls = [(1, qFace price n), (2, qFee price fn fd n), (3, qTax price fn fd tn td n)]) := by
    unfold quoteE
    rw [if_pos hc, if_pos rfl]
    show _ = (nextB (nextB (lineS ⟨0, 0, []⟩ 1 (n * price) 0) 2 fn fd) 3 tn td).err ∧ ((nextB (nextB (lineS ⟨0, 0, []⟩ 1 (n * price) 0) 2 fn fd) 3 tn td).err = 0 → (nextB (nextB (lineS ⟨0, 0, []⟩ 1 (n * price) 0) 2 fn fd) 3 tn td).ls = _)
    rw [lineS_zero hv0]
    simp only [Int.zero_add, List.nil_append]
    cases a1 : validB (n * price)
    · simp only [Bool.false_and, Bool.false_eq_true, if_false, Bool.and_false]
      rw [nextB_err (s := ⟨0, 2, []⟩) (by simp), nextB_err (s := ⟨0, 2, []⟩) (by simp)]
      exact ⟨rfl, fun h => by cases h⟩
    · simp only [Bool.and_self, if_true, Bool.true_and]
      rw [nextB_zero a1 h5]
      cases a2 : validB (roundP (n * price * fn) fd) && validB (n * price + roundP (n * price * fn) fd)
      · simp only [Bool.false_eq_true, if_false]
        rw [nextB_err (s := ⟨n * price, 2, [(1, n * price)]⟩) (by simp)]
        simp only [Bool.false_and, Bool.false_eq_true, if_false]
        exact ⟨trivial, fun h => by cases h⟩
      · simp only [if_true]
        have a2' := a2
        rw [Bool.and_eq_true] at a2'
        rw [nextB_zero a2'.2 h6]
        simp only [Bool.true_and]
        cases a3 : validB (roundP ((n * price + roundP (n * price * fn) fd) * tn) td) && validB (n * price + roundP (n * price * fn) fd + roundP ((n * price + roundP (n * price * fn) fd) * tn) td)
        · simp only [Bool.false_eq_true, if_false]
          exact ⟨trivial, fun h => by cases h⟩
        · simp only [if_true]
          exact ⟨trivial, fun _ => rfl⟩
  refine ⟨hE.1, ?_⟩
  unfold quoteL
  rw [hE.1]
  by_cases h0 : (stB n price fn fd tn td 2).err = 0
  · rw [if_pos h0, if_pos h0, hE.2 h0]
  · rw [if_neg h0, if_neg h0]

theorem quote_any (al to si : Bool) (lim price fn fd tn td cn cd sn sd rn rd y n : Int) (w : World) :
    Calls Try.prog 10 #[.agg (decCells al to si lim price fn fd tn td cn cd sn sd rn rd y), .int .i64 n] w (Quoted w (quoteE al price fn fd tn td n) (quoteL al price fn fd tn td n)) := by
  by_cases h : n < 1 ∨ 12 < n ∨ price < 0 ∨ validB price = false ∨ ratioB fn fd = false ∨ ratioB tn td = false
  · exact quote_bad al to si lim price fn fd tn td cn cd sn sd rn rd y n w h
  · simp only [not_or, Bool.not_eq_false] at h
    obtain ⟨h1, h2, h3, h4, h5, h6⟩ := h
    cases al
    · have hp := validB_out h4
      have hE : quoteE false price fn fd tn td n = 15 := by
        unfold quoteE
        rw [if_pos (by rw [h5, h6]; simp; omega)]
        rfl
      rw [quoteL_err hE (by decide), hE]
      exact quote_denied to si lim price fn fd tn td cn cd sn sd rn rd y n w (by omega) (by omega) (by omega) h4 h5 h6
    · obtain ⟨e1, e2⟩ := stB_quote n price fn fd tn td (by omega) (by omega) (by omega) h4 h5 h6
      exact quote_ok to si lim price fn fd tn td cn cd sn sd rn rd y n w (by omega) (by omega) (by omega) h4 h5 h6 e1 e2
end Go.Proofs.Ytdacfopdalgkaaa
