/- DecideKinds: with the rules sorted by their kinds the decision is the same but for By, and the rule of By is the same; for every policy and facts; no condition. -/
import Derived.Test.YtmklcfmdcfbpeaaDecN
import Derived.Test.YtmklcfmdcfbpeaaDecQ
namespace Go.Proofs.Ytmklcfmdcfbpeaa
open Go.RowKit Go.ChangeAt
set_option linter.unusedVariables false
set_option linter.unusedSimpArgs false
attribute [local go_sem] ext_cell ext_frozen lt_ext ext_drew extB_cell lt_extB

def intL (l : List Nat) : List Int := l.map fun (i : Nat) => (i : Int)
theorem intL_add (l : List Nat) (k : Nat) : intL (l ++ [k]) = intL l ++ [(k : Int)] := by simp [intL]
theorem pickL_add {rs : List Rl} {k : Nat} {r : Rl} (h : rs[k]? = some r) (l : List Nat) : pickL rs (l ++ [k]) = pickL rs l ++ [r] := by
  rw [pickL_append]
  congr 1
  simp [pickL, h]
theorem one_int : ∀ (w : World) (B : Nat) (cs : List Value) (x : Int), tInt.rd w B cs x → ∀ u ∈ cs, u.oneCell' = true := fun w B cs x h u hu => by
  obtain ⟨rfl, _⟩ := h
  obtain rfl := List.mem_singleton.1 hu
  rfl
theorem OwnL.grown {α : Type} {T : Ty α} {e : TypeId} {X X' : World} {base B : Nat} {v : Value} {qs : List α} {row : Option Nat} (h : OwnL T e X base B v qs) (hg : X.grownBy X' row) (hr : ∀ g, row = some g → B ≤ g) (hB : B ≤ X.heap.size) (hn : ∀ g, v.ownBlock = some g → row ≠ some g) : OwnL T e X' base B v qs :=
  h.only (S := fun g => row = some g) ((Only.refl _ X).grown hg (fun g hg => .inl hg)) hr hB hn
theorem fr_len (rs : List Rl) : ∀ m, (frTo rs m).length ≤ m * rs.length
  | 0 => by simp [frTo]
  | m + 1 => by
    have h1 := fr_len rs m
    have h2 : (idxTo rs (7 - (m : Int)) rs.length).length ≤ rs.length := by
      unfold idxTo
      have := List.length_filter_le (fun i => kindAt rs i (7 - (m : Int))) (List.range rs.length)
      simpa using this
    show (frTo rs m ++ idxTo rs (7 - (m : Int)) rs.length).length ≤ _
    rw [List.length_append, Nat.succ_mul]
    omega
theorem idx_len (rs : List Rl) (q : Int) (k : Nat) (hk : k ≤ rs.length) : (idxTo rs q k).length ≤ rs.length := by
  unfold idxTo
  have := List.length_filter_le (fun i => kindAt rs i q) (List.range k)
  simp at this
  omega
theorem by_sorted (f : Fc) (rs : List Rl) : (byG f (pickL rs (frTo rs 7)) = -1 ∧ byG f rs = -1) ∨ ∃ i j : Nat, byG f (pickL rs (frTo rs 7)) = j ∧ byG f rs = i ∧ (frTo rs 7)[j]? = some i := by
  unfold byG
  rcases fst_sorted f rs 2 (by omega) with ⟨h1, h2⟩ | ⟨i, j, h1, h2, h3⟩
  · rw [if_neg (by omega), if_neg (by omega)]
    exact fst_sorted f rs 1 (by omega)
  · rw [if_pos (by omega), if_pos (by omega)]
    exact .inr ⟨i, j, h1, h2, h3⟩
theorem held_sorted (f : Fc) (rs : List Rl) (q : Int) (hq : 1 ≤ q ∧ q ≤ 7) : heldK f (pickL rs (frTo rs 7)) q = heldK f rs q := by
  rw [held_fr f rs q 7, if_pos (by omega)]
theorem decG_sorted (f : Fc) (rs : List Rl) (y : Int) : decG (heldK f (pickL rs (frTo rs 7))) y = decG (heldK f rs) y := by
  unfold decG
  rw [held_sorted f rs 1 (by omega), held_sorted f rs 2 (by omega), held_sorted f rs 3 (by omega), held_sorted f rs 4 (by omega), held_sorted f rs 5 (by omega), held_sorted f rs 6 (by omega), held_sorted f rs 7 (by omega)]
theorem own_map (A : Option Addr) (n c : Nat) : (Value.slice A n c).ownBlock = A.map (·.block) := by cases A <;> rfl
/-- The state of the sorting. -/
def KS (X0 : World) (wb qb BB : Nat) (rs : List Rl) (l : List Nat) (t : Value) (wr : World) : Prop :=
  ∃ v, Bk wr qb #[v] 24 ∧ OwnL tRl 34 wr BB wb v (pickL rs l) ∧ OwnL tInt 3 wr BB wb t (intL l) ∧ (∀ g, v.ownBlock = some g → t.ownBlock ≠ some g) ∧ Below qb X0 wr

set_option maxRecDepth 100000 in
set_option maxHeartbeats 16000000 in
theorem kinds13 (A : Option Addr) (rs : List Rl) (cap : Nat) (f : Fc) (w : World) (h : Elems tRl w w.heap.size A rs) (hm : rs.length ≤ 9223372036854775807) (hf : f.length = 10) :
    Calls Try.prog 4 #[.agg #[.slice A rs.length cap], .agg (fcV f)] w fun e w' => e = .returned (.bool true) ∧ Below w.heap.size w w' := by
  rw [fcV_cells hf]
  have HH := Lib.hid h
  have HF := Lib.hid hf
  clear h hf
  go_enter Try.func4, Try.ntmps4
  go_wp2_with fail
  refine (head_any _).mono ?_
  rintro e w1 ⟨rfl, hb⟩
  have HB := Lib.hid hb
  clear hb
  go_upto_region 2 with (fail)
  refine forget (fun W => Below w.heap.size w W ∧ Bk W w.heap.size #[.slice A rs.length cap] 24 ∧ Bk W (w.heap.size + 1) #[.int .i64 (atF f 0), .int .i64 (atF f 1), .int .i64 (atF f 2), .int .i64 (atF f 3), .int .i64 (atF f 4), .int .i64 (atF f 5), .int .i64 (atF f 6), .int .i64 (atF f 7), .int .i64 (atF f 8), .int .i64 (atF f 9)] 26) ⟨Below.trans0 (Below.alloc0 (below_self w _) _) HB.out, ((Bk.new w _ _).alloc _).below HB.out, (bk_new_at _ _ _ _ (by simp)).below HB.out⟩ ?_
  clear HB
  rintro W ⟨hw, b0, b1⟩
  have c0 := b0.cell
  have c1 := b1.cell
  have l0 := b0.lt
  have l1 := b1.lt
  have HW := Lib.hid (And.intro hw (And.intro b0 b1))
  clear hw b0 b1
  obtain ⟨q, hq⟩ : ∃ v, fewP rs 60 = v := ⟨_, rfl⟩
  have HQ := Lib.hid hq
  clear hq
  cases q
  · go_wp2_with (go_at_call 11; refine (few_60 HH.out _ HQ.out _ HW.out.1).mono ?_; rintro e w' ⟨rfl, hb⟩; (first | (obtain ⟨u, rfl⟩ := ext_more hb; clear hb) | (obtain ⟨u, rfl⟩ := ext_more_alloc hb; clear hb) | (obtain ⟨u, rfl⟩ := ext_of hb; clear hb)))
    go_ret
    exact ⟨rfl, by have hw := HW.out.1; (repeat (first | with_reducible exact Below.refl _ _ | with_reducible assumption | with_reducible refine Below.alloc0 ?_ _ | with_reducible refine Below.ext0 ?_ _ | with_reducible refine Below.drew ?_ | with_reducible refine below_drewN ?_ _ | (with_reducible refine Below.setCell (hp := ?hp) ?_ _; case hp => (first | (simp; done) | (simp; omega)))))⟩
  · have hlen : rs.length ≤ 60 := by
      have := HQ.out
      unfold fewP at this
      simp only [Bool.and_eq_true, decide_eq_true_eq] at this
      exact this.1
    have hlen' : (rs.length : Int) ≤ 60 := by omega
    go_upto_region 7 with (go_at_call 11; refine (few_60 HH.out _ HQ.out _ HW.out.1).mono ?_; rintro e w' ⟨rfl, hb⟩; (first | (obtain ⟨u, rfl⟩ := ext_more hb; clear hb) | (obtain ⟨u, rfl⟩ := ext_more_alloc hb; clear hb) | (obtain ⟨u, rfl⟩ := ext_of hb; clear hb)))
    refine forget (fun X => Below w.heap.size w X ∧ Bk X w.heap.size #[.slice A rs.length cap] 24 ∧ Bk X (w.heap.size + 1) #[.int .i64 (atF f 0), .int .i64 (atF f 1), .int .i64 (atF f 2), .int .i64 (atF f 3), .int .i64 (atF f 4), .int .i64 (atF f 5), .int .i64 (atF f 6), .int .i64 (atF f 7), .int .i64 (atF f 8), .int .i64 (atF f 9)] 26 ∧ Bk X (ext W u).heap.size #[.slice none 0 0] 24 ∧ w.heap.size + 1 < (ext W u).heap.size) ⟨?_, ?_, ?_, ?_, ?_⟩ ?_
    · have hw := HW.out.1
      (repeat (first | with_reducible exact Below.refl _ _ | with_reducible assumption | with_reducible refine Below.alloc0 ?_ _ | with_reducible refine Below.ext0 ?_ _ | with_reducible refine Below.drew ?_ | with_reducible refine below_drewN ?_ _ | (with_reducible refine Below.setCell (hp := ?hp) ?_ _; case hp => (first | (simp; done) | (simp; omega)))))
    · exact (HW.out.2.1.ext _).alloc _
    · exact (HW.out.2.2.ext _).alloc _
    · exact Bk.new _ _ _
    · exact Nat.lt_of_lt_of_le HW.out.2.2.lt (size_ext _ _)
    generalize (ext W u).heap.size = qb at *
    clear c0 c1 l0 l1 HW HQ
    rintro X0 ⟨hw, b0, b1, b2, hqb⟩
    have hq0 := b2.lt
    have HX := Lib.hid (And.intro hw (And.intro b0 (And.intro b1 b2)))
    clear hw b0 b1 b2
    obtain ⟨BB, hBB⟩ : ∃ B, X0.heap.size = B := ⟨_, rfl⟩
    have HBB := Lib.hid hBB
    have hqB : qb < BB := by omega
    have hwB : w.heap.size ≤ BB := by omega
    clear hBB hq0
    go_loopw [7, 8] (fun t i wr => ∃ (m : Nat) (x : Int), m ≤ 7 ∧ x = 7 - (m : Int) ∧ i = .int .i64 x ∧ KS X0 w.heap.size qb BB rs (frTo rs m) t wr) (fun _ i _ => (intOf i).toNat)
    case atStart => exact ⟨0, 7, by omega, by omega, rfl, _, HX.out.2.2.2, OwnL.nil, OwnL.nil, (fun g hg => by simp [Value.ownBlock] at hg), Below.refl _ _⟩
    case round =>
      obtain ⟨m, x, hm7, hx, rfl, hks⟩ := hrel
      have HK0 := Lib.hid hks
      clear hks
      by_cases hx1 : 1 ≤ x
      · go_wp2_with fail
        have Hx := Lib.hid hx
        have hx7 : x ≤ 7 := by omega
        have hm6 : m < 7 := by omega
        clear hx
        go_loopw [7, 9] (fun t i wr => ∃ (k : Nat), k ≤ rs.length ∧ i = .int .i64 k ∧ KS X0 w.heap.size qb BB rs (frTo rs m ++ idxTo rs x k) t wr) (fun _ i _ => rs.length - (intOf i).toNat)
        case atStart => exact ⟨0, by omega, rfl, by have := HK0.out; simpa [idxTo] using this⟩
        case round =>
          obtain ⟨k, hk, rfl, v, hbq, hown, hownI, hne, hlow⟩ := hrel
          have hlw : Below w.heap.size w _ := HX.out.1.trans (hlow.mono (by omega))
          have hE := HH.out.keep hlw (Nat.le_refl _)
          have b0 := HX.out.2.1.below' hlow (by omega)
          have b1 := HX.out.2.2.1.below' hlow (by omega)
          have c0 := b0.cell
          have l0 := b0.lt
          have hbr := hlw.size
          have hsz := hlow.size
          obtain ⟨A7, c7, rfl, hc7, hmx⟩ := hown.form
          obtain ⟨AI, cI, rfl, hcI, hmI⟩ := hownI.form
          have hql : (pickL rs (frTo rs m ++ idxTo rs x k)).length ≤ 480 := by
            have h1 := fr_len rs m
            have h2 := idx_len rs x k hk
            have h3 : m * rs.length ≤ 7 * 60 := Nat.mul_le_mul (by omega) hlen
            unfold pickL
            have h4 := List.length_filterMap_le (fun i => rs[i]?) (frTo rs m ++ idxTo rs x k)
            rw [List.length_append] at h4
            omega
          have hil : (intL (frTo rs m ++ idxTo rs x k)).length ≤ 480 := by
            have h1 := fr_len rs m
            have h2 := idx_len rs x k hk
            have h3 : m * rs.length ≤ 7 * 60 := Nat.mul_le_mul (by omega) hlen
            unfold intL
            rw [List.length_map, List.length_append]
            omega
          have HO := Lib.hid hown
          have HI := Lib.hid (And.intro hownI hne)
          have HQ := Lib.hid hbq
          have HY := Lib.hid (And.intro hlow hlw)
          clear hlow hlw hown hownI hne hbq b0 b1 hmx hmI
          by_cases hlt : k < rs.length
          · obtain ⟨b, off, kd, nm, AZ, zs, zc, num, rn1, rd1, sn1, sd1, rfl, hb, Hk, d0, d1, d2, d3, d4, d5, d6, d7, hzl, HZ, Hrd⟩ := pick_rule3 hE hlt
            have hkl : (k : Int) < (rs.length : Int) := by omega
            have Hst := Lib.hid (idxTo_succ rs x k)
            have hka : Hid (kindAt rs k x = decide (kd = x)) := Lib.hid (by unfold kindAt; rw [Hk.out])
            have Hpick := Lib.hid (pickL_add Hk.out (frTo rs m ++ idxTo rs x k))
            have Hint := Lib.hid (intL_add (frTo rs m ++ idxTo rs x k) k)
            clear hE
            by_cases he : kd = x
            · have e1 : (kd == x) = true := by simp [he]
              have e2 : decide (kd = x) = true := decide_eq_true he
              have Hl : Hid (frTo rs m ++ idxTo rs x (k + 1) = (frTo rs m ++ idxTo rs x k) ++ [k]) := Lib.hid (by rw [Hst.out, if_pos (by rw [hka.out, e2]), List.append_assoc])
              clear he
              generalize frTo rs m ++ idxTo rs x k = l at *
              generalize pickL rs l = qs at *
              generalize intL l = il at *
              have bw : b < _ := Nat.lt_of_lt_of_le hb hbr
              as_aux_lemma =>
              go_wp2_with fail
              have hBX : BB ≤ wr.heap.size := by have := hsz; rw [HBB.out] at this; exact this
              have hwX : w.heap.size ≤ wr.heap.size := by omega
              have bB : b < BB := by omega
              have wB : w.heap.size < BB := by omega
              have cq := HQ.out.cell
              have hS0 : Below BB wr wr.drew := (Below.refl _ _).drew
              have HS0 := Lib.hid hS0
              clear hS0
              refine region_planl (S := fun w' => ∃ u, w' = extB BB wr u) [([0, 1, 2, 3, 4, 5, 6], [7, 8]), ([9], [])] 10 (by kernel_rfl) (by kernel_rfl) (mem_extB hBX HS0.out) ?_
              refine plan_take (fun K9 h9 => ?_)
              simp only [List.map_cons, List.map_nil, pickO, List.getD_cons_zero, List.getD_cons_succ]
              repeat (go_big_quiet_step (fail))
              refine wpQuiet_nil (h9 _ ?_)
              clear h9 K9
              refine plan_run (fun K9 h9 => ?_)
              simp only [pickO, List.getD_cons_zero, List.getD_cons_succ]
              refine list_lit1w (by rfl) _ 34 _ (by rfl) #[.int .i64 kd, .string nm, .slice AZ zs.length zc, .int .i64 num, .int .i64 rn1, .int .i64 rd1, .int .i64 sn1, .int .i64 sd1] (by rfl) Try.underlying22 (by kernel_rfl) (by simp) (by simp) (by kernel_rfl) ?_
              show K9 _ _
              go_simp
              refine h9 _ _ (mem_extB hBX (HS0.out.alloc hBX _)) ?_
              clear h9 K9
              refine plan_run (fun K9 h9 => ?_)
              simp only [pickO, List.getD_cons_zero, List.getD_cons_succ]
              refine list_appendL (T := tRl) (base := BB) (B := w.heap.size) (qs := qs) (v := .slice A7 qs.length c7) rfl _ _ _ rfl 88 Try.underlying22 (by kernel_rfl) (by decide) one_rl rfl (HO.out.below ((Below.refl _ wr).drew.alloc (Nat.le_refl _) _) hwX) (some ⟨wr.heap.size, 0, none⟩) 1 1 [_] [(#[.int .i64 kd, .string nm, .slice AZ zs.length zc, .int .i64 num, .int .i64 rn1, .int .i64 rd1, .int .i64 sn1, .int .i64 sd1] : Array Value).toList] rfl rfl rfl (fun i h1 h2 => by obtain rfl : i = 0 := (by simp at h1; omega); exact tRl.keep ((Below.refl _ wr).drew.alloc hwX _) (Nat.le_refl _) Hrd.out) (by have := lies_bk ((Bk.new wr #[.int .i64 kd, .string nm, .slice AZ zs.length zc, .int .i64 num, .int .i64 rn1, .int .i64 rd1, .int .i64 sn1, .int .i64 sd1] 34).drew) 1; simpa using this) (by unfold maxLen; omega) (by omega) (by simp; omega) hwB ?_
              intro A8 c8 w8 hown8 hbel8 hg8 hd8
              show K9 _ _
              go_simp
              have hB8 : Below BB wr w8 := (HS0.out.alloc hBX _).trans hbel8
              have hX9 := (Below.refl _ wr).drew.alloc (Nat.le_refl _) (.cells #[.int .i64 kd, .string nm, .slice AZ zs.length zc, .int .i64 num, .int .i64 rn1, .int .i64 rd1, .int .i64 sn1, .int .i64 sd1] 34)
              have hI8 : OwnL tInt 3 w8 BB w.heap.size (.slice AI il.length cI) il := (HI.out.1.below hX9 hwX).grown hg8 (fun g hg => by have := (HO.out.lt g hg).1; omega) (by have := hX9.size; omega) (fun g h1 h2 => HI.out.2 g h2 h1)
              have hn8 : ∀ g, (Value.slice A8 (qs.length + 1) c8).ownBlock = some g → (Value.slice AI il.length cI).ownBlock ≠ some g := fun g h1 h2 => by
                rw [own_map] at h1
                rcases hd8 with h | h
                · exact HI.out.2 g (by rw [← h, h1]) h2
                · rw [h1] at h
                  have := (HI.out.1.lt g h2).2
                  simp at h
                  omega
              clear hX9
              have H8 := Lib.hid (And.intro hown8 (And.intro hI8 (And.intro hn8 hB8)))
              refine h9 _ _ (mem_extB hBX hB8) ?_
              clear h9 K9 hown8 hbel8 hg8 hd8 hB8
              refine plan_next ?_
              refine plan_take (fun K9 h9 => ?_)
              simp only [List.map_cons, List.map_nil, pickO, List.getD_cons_zero, List.getD_cons_succ]
              repeat (go_big_quiet_step (fail))
              refine wpQuiet_nil (h9 _ ?_)
              clear h9 K9
              refine plan_next (plan_end ?_)
              simp only [pickO, List.getD_cons_zero, List.getD_cons_succ]
              have bq8 := HQ.out.below' H8.out.2.2.2 hqB
              have cq8 : w8.cell? ⟨qb, 0, none⟩ = some _ := bq8.cell 0
              have fq8 := bq8.free 0
              have lq8 := bq8.lt
              have HQ8 := Lib.hid bq8
              clear bq8
              go_upto_region 14 with (fail)
              have hq9 := HQ8.out.set_ 0 (.slice A8 (qs.length + 1) c8)
              have ho9 : Only (fun b => b = qb) w8 (w8.setCell ⟨qb, 0, none⟩ (.slice A8 (qs.length + 1) c8)) := (Only.refl (fun b => b = qb) w8).set_ (p := ⟨qb, 0, none⟩) (.inl rfl) _
              have hs8 : w.heap.size ≤ w8.heap.size := by have := H8.out.2.2.2.size; omega
              have hq1 := H8.out.1.only ho9 (fun g hg => by omega) hs8 (fun g hg => by have := (H8.out.1.lt g hg).1; omega)
              have hi1 := H8.out.2.1.only ho9 (fun g hg => by omega) hs8 (fun g hg => by have := (H8.out.2.1.lt g hg).1; omega)
              have hb1 : Below qb X0 (w8.setCell ⟨qb, 0, none⟩ (.slice A8 (qs.length + 1) c8)) := (HY.out.1.trans (H8.out.2.2.2.mono (by omega))).setCell (by show qb ≤ qb; omega) _
              have hsz9 : BB ≤ (w8.setCell ⟨qb, 0, none⟩ (.slice A8 (qs.length + 1) c8)).heap.size := by have := H8.out.2.2.2.size; simp [World.setCell]; omega
              refine forget (fun Y => Bk Y qb #[.slice A8 (qs.length + 1) c8] 24 ∧ OwnL tRl 34 Y BB w.heap.size (.slice A8 (qs.length + 1) c8) (qs ++ [(kd, nm, zs, num, (rn1, rd1), (sn1, sd1))]) ∧ OwnL tInt 3 Y BB w.heap.size (.slice AI il.length cI) il ∧ Below qb X0 Y ∧ BB ≤ Y.heap.size) ⟨hq9, hq1, hi1, hb1, hsz9⟩ ?_
              have Hne := Lib.hid H8.out.2.2.1
              clear hq9 ho9 hq1 hi1 hb1 hsz9 hs8 cq8 fq8 lq8 HQ8 H8 cq HQ HO HI c0 l0 d0 d1 d2 d3 d4 d5 d6 d7 bw
              rintro Y ⟨hq, ho, hi, hbl, hsY⟩
              as_aux_lemma =>
              have hwY : w.heap.size ≤ Y.heap.size := by omega
              have HR := Lib.hid (And.intro hq (And.intro ho (And.intro hi hbl)))
              clear hq ho hi hbl
              go_wp2_with (refine list_appendL (T := tInt) (base := BB) (B := w.heap.size) (qs := il) (v := .slice AI il.length cI) (o := ⟨some 49, _, _, _, _, _⟩) rfl _ _ _ rfl 8 Try.underlying40 (by kernel_rfl) (by decide) one_int rfl (HR.out.2.2.1.below (below_self _ _) hwY) (some ⟨Y.heap.size, 0, none⟩) 1 1 [(k : Int)] [[.int .i64 k]] rfl rfl rfl (fun i h1 h2 => by obtain rfl : i = 0 := (by simp at h1; omega); exact ⟨rfl, by show (-9223372036854775808 : Int) ≤ (k : Int); omega, by show (k : Int) ≤ 9223372036854775807; omega⟩) (lies_bk (C := #[.int .i64 k]) (Bk.new Y #[.int .i64 k] 3) 1) (by unfold maxLen; omega) (by omega) (by simp; omega) hwB ?_; intro A9 c9 w9 hown9 hbel9 hg9 hd9)
              have hb9 : Below BB Y w9 := ((Below.refl BB Y).alloc hsY _).trans hbel9
              have hown1 : OwnL tRl 34 w9 BB w.heap.size (.slice A8 (qs.length + 1) c8) (qs ++ [(kd, nm, zs, num, (rn1, rd1), (sn1, sd1))]) := (HR.out.2.1.below (below_self Y _) hwY).grown hg9 (fun g hg => by have := (HR.out.2.2.1.lt g hg).1; omega) (by simp; omega) (fun g h1 h2 => Hne.out g h1 h2)
              have hne9 : ∀ g, (Value.slice A8 (qs.length + 1) c8).ownBlock = some g → (Value.slice A9 (il.length + 1) c9).ownBlock ≠ some g := fun g h1 h2 => by
                rw [own_map] at h2
                rcases hd9 with h | h
                · exact Hne.out g h1 (by rw [← h, h2])
                · rw [h2] at h
                  have := (HR.out.2.1.lt g h1).2
                  simp at h
                  omega
              have H9 : Hid (KS X0 w.heap.size qb BB rs (frTo rs m ++ idxTo rs x (k + 1)) (.slice A9 (il.length + 1) c9) w9) := Lib.hid ⟨_, HR.out.1.below' hb9 hqB, by rw [Hl.out, Hpick.out]; exact hown1, by rw [Hl.out, Hint.out]; exact hown9, hne9, HR.out.2.2.2.trans (hb9.mono (by omega))⟩
              clear hb9 hown1 hne9 hown9 hbel9 hg9 hd9
              go_wp2_with fail
              go_roundw
              case rel => exact ⟨k + 1, by omega, by go_num, H9.out⟩
              case measure => simp [intOf]; omega
            · have e1 : (kd == x) = false := by rw [beq_eq_false_iff_ne]; exact he
              have e2 : decide (kd = x) = false := decide_eq_false he
              have Hl : Hid (frTo rs m ++ idxTo rs x (k + 1) = frTo rs m ++ idxTo rs x k) := Lib.hid (by rw [Hst.out, if_neg (by rw [hka.out, e2]; decide), List.append_nil])
              have bw : b < wr.heap.size := Nat.lt_of_lt_of_le hb hbr
              have HS : Hid (KS X0 w.heap.size qb BB rs (frTo rs m ++ idxTo rs x (k + 1)) (.slice AI (intL (frTo rs m ++ idxTo rs x k)).length cI) wr) := Lib.hid (by rw [Hl.out]; exact ⟨_, HQ.out, HO.out, HI.out.1, HI.out.2, HY.out.1⟩)
              clear he
              generalize frTo rs m ++ idxTo rs x k = l at *
              generalize pickL rs l = qs at *
              generalize intL l = il at *
              as_aux_lemma =>
              go_wp2_with fail
              go_roundw
              case rel => exact ⟨k + 1, by omega, by go_num, HS.out⟩
              case measure => simp [intOf]; omega
          · obtain rfl : k = rs.length := by omega
            have Hfr : Hid (frTo rs m ++ idxTo rs x rs.length = frTo rs (m + 1)) := Lib.hid (by rw [Hx.out]; rfl)
            have HS : Hid (KS X0 w.heap.size qb BB rs (frTo rs (m + 1)) (.slice AI (intL (frTo rs m ++ idxTo rs x rs.length)).length cI) wr) := Lib.hid (by rw [← Hfr.out]; exact ⟨_, HQ.out, HO.out, HI.out.1, HI.out.2, HY.out.1⟩)
            have Hx2 : Hid (x - 1 = 7 - ((m + 1 : Nat) : Int)) := Lib.hid (by have := Hx.out; omega)
            clear hE
            generalize (intL (frTo rs m ++ idxTo rs x rs.length)).length = il at *
            as_aux_lemma =>
            go_wp2_with fail
            go_roundw
            case rel => exact ⟨m + 1, x - 1, by omega, Hx2.out, by go_num, HS.out⟩
            case measure => simp [intOf]; omega
      · obtain rfl : m = 7 := by omega
        obtain rfl : x = 0 := by omega
        obtain ⟨v, hbq, hown, hownI, hne, hlow⟩ := HK0.out
        have hlw : Below w.heap.size w _ := HX.out.1.trans (hlow.mono (by omega))
        have b0 := HX.out.2.1.below' hlow (by omega)
        have b1 := HX.out.2.2.1.below' hlow (by omega)
        have c0 := b0.cell
        have c1 := b1.cell
        have l0 := b0.lt
        have l1 := b1.lt
        have hbr := hlw.size
        obtain ⟨A7, c7, rfl, hc7, hmx⟩ := hown.form
        obtain ⟨AI, cI, rfl, hcI, hmI⟩ := hownI.form
        have hfl := fr_len rs 7
        have hql : (pickL rs (frTo rs 7)).length ≤ 420 := by
          unfold pickL
          have h4 := List.length_filterMap_le (fun i => rs[i]?) (frTo rs 7)
          omega
        have hil : (intL (frTo rs 7)).length = (frTo rs 7).length := by unfold intL; rw [List.length_map]
        have hby := by_sorted f rs
        obtain ⟨ok, tg, si, lim, price, fn, fd, tn, td, cn, cd, sn, sd, rn, rd, hG⟩ := decG_lit (heldK f rs)
        have HC1 := Lib.hid ((dcs_gist f rs).trans (hG (byG f rs)))
        have HC2 := Lib.hid ((dcs_gist f (pickL rs (frTo rs 7))).trans ((decG_sorted f rs (byG f (pickL rs (frTo rs 7)))).trans (hG (byG f (pickL rs (frTo rs 7))))))
        generalize byG f rs = y1 at *
        generalize byG f (pickL rs (frTo rs 7)) = y2 at *
        have hl1 : rs.length ≤ 1000 := by omega
        have HO := Lib.hid hown
        have HI := Lib.hid hownI
        have HQ := Lib.hid hbq
        have HY := Lib.hid (And.intro hlw (And.intro b0 b1))
        clear hG hlow hlw hown hownI hne hbq b0 b1 hmx hmI HK0
        generalize pickL rs (frTo rs 7) = qs at *
        have Hfr : Hid (∀ j i : Nat, (frTo rs 7)[j]? = some i → (intL (frTo rs 7))[j]? = some (i : Int)) := Lib.hid fun j i h => by unfold intL; simp [h]
        have Hjl : Hid (∀ j i : Nat, (frTo rs 7)[j]? = some i → j < (intL (frTo rs 7)).length) := Lib.hid fun j i h => by rw [hil]; exact (List.getElem?_eq_some_iff.1 h).1
        have Hby := Lib.hid hby
        have hil2 : (intL (frTo rs 7)).length ≤ 420 := by omega
        clear hby hil hfl
        generalize frTo rs 7 = fr at *
        generalize intL fr = il at *
        obtain ⟨Z0, hZ0⟩ : ∃ Z, Z = wr := ⟨_, rfl⟩
        have hl2 : qs.length ≤ 1000 := by omega
        clear hx1 hx hm7
        have hx2 : decide ((1 : Int) ≤ 0) = false := by decide
        as_aux_lemma =>
        go_wp2_with fail
        with_reducible refine (dec_in HH.out hl1 HF.out _ HC1.out _ HY.out.1).mono ?_
        rintro e w' ⟨rfl, hb⟩
        (first | (obtain ⟨u, rfl⟩ := ext_more hb; clear hb) | (obtain ⟨u, rfl⟩ := ext_more_alloc hb; clear hb) | (obtain ⟨u, rfl⟩ := ext_of hb; clear hb))
        go_upto_region 16 with (fail)
        refine forget (fun X => Below wr.heap.size wr X ∧ Bk X (ext wr u).heap.size #[.bool ok, .bool tg, .bool si, .int .i64 lim, .int .i64 price, .int .i64 fn, .int .i64 fd, .int .i64 tn, .int .i64 td, .int .i64 cn, .int .i64 cd, .int .i64 sn, .int .i64 sd, .int .i64 rn, .int .i64 rd, .int .i64 y1] 37 ∧ wr.heap.size ≤ (ext wr u).heap.size) ⟨by (repeat (first | with_reducible exact Below.refl _ _ | with_reducible assumption | with_reducible refine Below.alloc0 ?_ _ | with_reducible refine Below.ext0 ?_ _ | with_reducible refine Below.drew ?_ | with_reducible refine below_drewN ?_ _ | (with_reducible refine Below.setCell (hp := ?hp) ?_ _; case hp => (first | (simp; done) | (simp; omega))))), Bk.new _ _ _, size_ext _ _⟩ ?_
        generalize (ext wr u).heap.size = p1 at *
        rintro Z1 ⟨hz, bp1, hp1⟩
        have c0 := (HY.out.2.1.below hz).cell
        have c1 := (HY.out.2.2.below hz).cell
        have l0 := (HY.out.2.1.below hz).lt
        have l1 := (HY.out.2.2.below hz).lt
        have cq := (HQ.out.below hz).cell
        have lq := (HQ.out.below hz).lt
        have HE2 := Lib.hid ((HO.out.elems (B2 := wr.heap.size) hbr (Nat.le_refl _)).keep hz hz.size)
        have HZ := Lib.hid (And.intro hz bp1)
        have hz1 := hz.size
        clear hz bp1
        as_aux_lemma =>
        go_upto_region 17 with (go_at_call 16; refine (dec_in HE2.out hl2 HF.out _ HC2.out _ (Below.refl _ _)).mono ?_; rintro e w' ⟨rfl, hb⟩; obtain ⟨u2, rfl⟩ := ext_of hb; clear hb)
        refine forget (fun X => Below Z1.heap.size Z1 X ∧ Bk X (ext Z1 u2).heap.size #[.bool ok, .bool tg, .bool si, .int .i64 lim, .int .i64 price, .int .i64 fn, .int .i64 fd, .int .i64 tn, .int .i64 td, .int .i64 cn, .int .i64 cd, .int .i64 sn, .int .i64 sd, .int .i64 rn, .int .i64 rd, .int .i64 y2] 37 ∧ Z1.heap.size ≤ (ext Z1 u2).heap.size) ⟨by (repeat (first | with_reducible exact Below.refl _ _ | with_reducible assumption | with_reducible refine Below.alloc0 ?_ _ | with_reducible refine Below.ext0 ?_ _ | with_reducible refine Below.drew ?_ | with_reducible refine below_drewN ?_ _ | (with_reducible refine Below.setCell (hp := ?hp) ?_ _; case hp => (first | (simp; done) | (simp; omega))))), Bk.new _ _ _, size_ext _ _⟩ ?_
        generalize (ext Z1 u2).heap.size = p2 at *
        rintro Z2 ⟨hz2, bp2, hp2⟩
        have d1 := (HZ.out.2.below hz2).cell
        have k1 := (HZ.out.2.below hz2).lt
        have d2 := bp2.cell
        have f2 := bp2.free 15
        have k2 := bp2.lt
        have hp12 : p1 ≠ p2 := by have := HZ.out.2.lt; omega
        have HZ2 := Lib.hid (And.intro ((HY.out.1.trans (HZ.out.1.mono hbr)).trans (hz2.mono (by omega))) (And.intro bp2 (HZ.out.2.below hz2)))
        have HEI := Lib.hid (((HI.out.elems (B2 := wr.heap.size) hbr (Nat.le_refl _)).keep HZ.out.1 hz1).keep (hz2) hz2.size)
        clear hz2 bp2 c0 c1 l0 l1 cq lq
        as_aux_lemma =>
        rcases Hby.out with ⟨rfl, rfl⟩ | ⟨i, j, rfl, rfl, hij⟩
        · have y3 : decide ((il.length : Int) ≤ -1) = false := decide_eq_false (by omega)
          go_wp2_with fail
          go_ret
          exact ⟨rfl, HZ2.out.1⟩
        · have hj := Hjl.out j i hij
          obtain ⟨gb, go, xv, hA9, hgb, _, Hxv, hcx, _, _⟩ := HEI.out.pick_int hj
          obtain rfl : xv = (i : Int) := by have := Hxv.out.symm.trans (Hfr.out j i hij); simpa using this
          subst hA9
          have hj' : (j : Int) < (il.length : Int) := by omega
          have y3 : decide ((il.length : Int) ≤ (j : Int)) = false := decide_eq_false (by omega)
          have y4 : (0 : Int) ≤ (j : Int) := by omega
          clear Hxv hij
          go_upto_region 21 with (fail)
          refine forget (fun X => Below w.heap.size w X ∧ Bk X p2 #[.bool ok, .bool tg, .bool si, .int .i64 lim, .int .i64 price, .int .i64 fn, .int .i64 fd, .int .i64 tn, .int .i64 td, .int .i64 cn, .int .i64 cd, .int .i64 sn, .int .i64 sd, .int .i64 rn, .int .i64 rd, .int .i64 i] 37 ∧ Bk X p1 #[.bool ok, .bool tg, .bool si, .int .i64 lim, .int .i64 price, .int .i64 fn, .int .i64 fd, .int .i64 tn, .int .i64 td, .int .i64 cn, .int .i64 cd, .int .i64 sn, .int .i64 sd, .int .i64 rn, .int .i64 rd, .int .i64 i] 37) ⟨?_, ?_, ?_⟩ ?_
          · exact HZ2.out.1.setCell (by show w.heap.size ≤ p2; omega) _
          · exact HZ2.out.2.1.set_ 15 (.int .i64 i)
          · exact HZ2.out.2.2.far (by show p1 ≠ p2; exact hp12) _
          clear d1 d2 f2 k1 k2 HZ2 hcx
          rintro X ⟨hw, e2, e1⟩
          have d1 := e1.cell
          have d2 := e2.cell
          have k1 := e1.lt
          have k2 := e2.lt
          have HW9 := Lib.hid hw
          clear e1 e2 hw
          go_wp2_with fail
          go_ret
          exact ⟨rfl, HW9.out⟩

set_option maxRecDepth 100000 in
theorem decideKinds_lifted (os : Os) (started : os.Started) (H : Type) (enc : TypeId × Value → H) :
    ReturnsInHanded {} Try.checked os 4 .any (Rows.decideKindsSpec.pre6 enc Try.prog Try.f4 [] false) (Rows.decideKindsSpec.post enc Try.prog Try.f4 false true false false) := by
  refine law_lifted (C := Try.checked) own started (by kernel_rfl) Try.func4 rfl (fun ds hds => ?_) (tb := 4) (by kernel_rfl) Try.underlying4 laidOut (fun t ht => ?_)
    (ChangeSpec.witness6 (enc := enc) (C := Try.checked) false ⟨#[], #[.agg #[.slice none 0 0], .agg #[.int .i64 0, .int .i64 0, .int .i64 0, .int .i64 0, .int .i64 0, .int .i64 0, .int .i64 0, .int .i64 0, .int .i64 0, .int .i64 0]], []⟩ 8 (by kernel_rfl) (by kernel_rfl) (by kernel_rfl) (by kernel_rfl)) ?_
  · rw [Try.params4] at hds
    match ds, hds with
    | [_, _], _ => rfl
  · have := List.all_eq_true.1 (show (Try.f4.params.toList.all fun t => Try.prog.readableRec t && decide (t < Try.prog.types.size)) = true by kernel_rfl) t ht
    simp only [Bool.and_eq_true, decide_eq_true_eq] at this
    exact this
  · intro W args g
    rw [Try.params4] at g
    obtain ⟨v0, q0, e0, g0, h0⟩ := g.cons_inv
    obtain ⟨v1, q1, rfl, g1, h1⟩ := h0.cons_inv
    obtain rfl := h1.nil_inv
    obtain rfl : args = #[v0, v1] := by cases args; simp_all
    obtain ⟨c0, y0, rfl, r0⟩ := g0.agg Try.underlying24 opensPol
    obtain ⟨c1, y1, rfl, r1⟩ := g1.arr Try.underlying26 opensFc
    obtain ⟨A, cap, e1, b1, b2, b3⟩ := pol_of r0
    obtain ⟨e2, b4, b5⟩ := fac_of r1
    rw [e1, e2]
    exact kinds13 A y0 cap y1 W b3 (by unfold maxLen at b2; omega) b4

theorem decideKinds_holds : Rows.DecideKindsSaid :=
  OpenClaim.holds_of_wide 4 Try.f4 rfl rfl rfl rfl rfl rfl rfl ⟨rfl, rfl, rfl, rfl, rfl⟩ rfl rfl rfl rfl rfl (by kernel_rfl) Try.func4 (by kernel_rfl)
    (of_decide_eq_true (by kernel_rfl)) (by unfold Func.isWrapper; first | (rw [if_pos (by decide +kernel)]; kernel_rfl) | (rw [if_neg (by decide +kernel)]; exact ⟨rfl, rfl⟩))
    (fun os started H enc _ => decideKinds_lifted os started H enc)
#print axioms decideKinds_holds

end Go.Proofs.Ytmklcfmdcfbpeaa
