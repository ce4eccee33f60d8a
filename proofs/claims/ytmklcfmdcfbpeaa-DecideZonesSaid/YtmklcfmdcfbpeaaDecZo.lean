/- DecideZones: a rule holds exactly if one with one of its zones alone does, and the same with its zones turned, each twice; for every rule and facts; no condition. -/
import Derived.Test.YtmklcfmdcfbpeaaDecN
import Derived.Test.YtmklcfmdcfbpeaaDecO
import Derived.Test.YtmklcfmdcfbpeaaRow
import Derived.Test.YtmklcfmdcfbpeaaPlanI
namespace Go.Proofs.Ytmklcfmdcfbpeaa
open Go.RowKit Go.ChangeAt
set_option linter.unusedVariables false
set_option linter.unusedSimpArgs false
attribute [local go_sem] ext_cell ext_frozen lt_ext ext_drew extB_cell lt_extB

def dbl (l : List Zn) : List Zn := l.reverse.flatMap fun z => [z, z]
theorem dbl_cons (z : Zn) (l : List Zn) : dbl (z :: l) = dbl l ++ [z, z] := by simp [dbl]
theorem dbl_any (p : Zn → Bool) : ∀ l : List Zn, (dbl l).any p = l.any p
  | [] => rfl
  | z :: l => by
    rw [dbl_cons, List.any_append, dbl_any p l]
    simp only [List.any_cons, List.any_nil]
    cases p z <;> cases l.any p <;> rfl
theorem dbl_len : ∀ l : List Zn, (dbl l).length = 2 * l.length
  | [] => rfl
  | z :: l => by rw [dbl_cons, List.length_append, dbl_len l, List.length_cons]; simp; omega
theorem one_zn : ∀ (w : World) (B : Nat) (cs : List Value) (x : Zn), tZn.rd w B cs x → ∀ u ∈ cs, u.oneCell' = true := fun w B cs x h u hu => by
  obtain ⟨rfl, _, _⟩ := zn_cells h
  have := one_pairs x
  rw [Array.all_eq_true_iff_forall_mem] at this
  exact this u (by simpa using hu)
theorem drop_cons {α : Type} {xs : List α} {k : Nat} {x : α} (h : xs[k]? = some x) : xs.drop k = x :: xs.drop (k + 1) := by
  obtain ⟨hk, rfl⟩ := List.getElem?_eq_some_iff.1 h
  exact List.drop_eq_getElem_cons hk
/-- A zone picked, as it reads and as it lies. -/
theorem pick_zone2 {w : World} {B : Nat} {A : Option Addr} {zs : List Zn} (h : Elems tZn w B A zs) {k : Nat} (hk : k < zs.length) :
    ∃ b off z, A = some ⟨b, off, none⟩ ∧ b < B ∧ Hid (zs[k]? = some z) ∧ Hid (tZn.rd w B (pairsV z) z) ∧ z.length = 10 ∧ Hid (∀ j u, (znV z)[j]? = some u → w.cell? ⟨b, off + k * 20 + j, none⟩ = some u) := by
  obtain ⟨b, off, z, cs, hA, hb, _, hx, _, hr, hc⟩ := h.pick hk
  obtain ⟨rfl, hz, _⟩ := zn_cells hr
  exact ⟨b, off, z, hA, hb, hx, hr, hz, fun j u hu => hc j u (by simpa [znV] using hu)⟩
theorem one_at {w : World} {B b off : Nat} {zs : List Zn} (h : Elems tZn w B (some ⟨b, off, none⟩) zs) {k : Nat} {z : Zn} (hz : zs[k]? = some z) : Elems tZn w B (some ⟨b, off + k * 20, none⟩) [z] := fun i hi => by
  obtain rfl : i = 0 := by simpa using hi
  obtain ⟨hk, rfl⟩ := List.getElem?_eq_some_iff.1 hz
  obtain ⟨b', off', cs, hA, hb, hr, hc⟩ := h k hk
  simp only [Option.some.injEq, Addr.mk.injEq, and_true] at hA
  obtain ⟨rfl, rfl⟩ := hA
  exact ⟨b, off + k * 20, cs, rfl, hb, hr, fun j u hu => by rw [Nat.zero_mul, Nat.add_zero]; exact hc j u hu⟩

set_option maxRecDepth 100000 in
set_option maxHeartbeats 8000000 in
theorem zones13 (kd : Int) (nm : ByteArray) (AZ : Option Addr) (zs : List Zn) (zc : Nat) (num rn rd sn sd : Int) (f : Fc) (w : World) (h : Elems tZn w w.heap.size AZ zs) (hcap : zs.length ≤ zc) (hmax : zc ≤ maxLen) (hf : f.length = 10) :
    Calls Try.prog 5 #[.agg #[.int .i64 kd, .string nm, .slice AZ zs.length zc, .int .i64 num, .int .i64 rn, .int .i64 rd, .int .i64 sn, .int .i64 sd], .agg (fcV f)] w fun e w' => e = .returned (.bool true) ∧ Below w.heap.size w w' := by
  rw [fcV_cells hf]
  unfold maxLen at hmax
  have HH := Lib.hid h
  have HF := Lib.hid hf
  clear h hf
  go_enter Try.func5, Try.ntmps5
  go_wp2_with fail
  refine (head_any _).mono ?_
  rintro e w1 ⟨rfl, hb⟩
  have HB := Lib.hid hb
  clear hb
  go_upto_region 2 with (fail)
  refine forget (fun W => Below w.heap.size w W ∧ Bk W w.heap.size #[.int .i64 kd, .string nm, .slice AZ zs.length zc, .int .i64 num, .int .i64 rn, .int .i64 rd, .int .i64 sn, .int .i64 sd] 34 ∧ Bk W (w.heap.size + 1) #[.int .i64 (atF f 0), .int .i64 (atF f 1), .int .i64 (atF f 2), .int .i64 (atF f 3), .int .i64 (atF f 4), .int .i64 (atF f 5), .int .i64 (atF f 6), .int .i64 (atF f 7), .int .i64 (atF f 8), .int .i64 (atF f 9)] 26) ⟨Below.trans0 (Below.alloc0 (below_self w _) _) HB.out, ((Bk.new w _ _).alloc _).below HB.out, (bk_new_at _ _ _ _ (by simp)).below HB.out⟩ ?_
  clear HB
  rintro W ⟨hw, b0, b1⟩
  have c0 := b0.cell
  have l0 := b0.lt
  have HW := Lib.hid (And.intro hw (And.intro b0 b1))
  clear hw b0 b1
  by_cases h60 : 60 < (zs.length : Int)
  · go_wp2_with fail
    go_ret
    exact ⟨rfl, HW.out.1⟩
  · have hlen : (zs.length : Int) ≤ 60 := by omega
    have hlen2 : zs.length ≤ 60 := by omega
    clear h60
    go_wp2_with fail
    clear c0 l0
    go_loopw [6, 7, 8] (fun s t i wr => ∃ (k : Nat) (x : Int), k ≤ zs.length ∧ x + 1 = k ∧ i = .int .i64 x ∧ s = .bool ((zs.drop k).any fun z => inZ z f) ∧ OwnL tZn 44 wr W.heap.size w.heap.size t (dbl (zs.drop k)) ∧ Below W.heap.size W wr) (fun _ _ i _ => (intOf i + 1).toNat)
    case atStart => exact ⟨zs.length, (zs.length : Int) - 1, Nat.le_refl _, by omega, rfl, by rw [List.drop_length]; rfl, by rw [List.drop_length]; exact OwnL.nil, Below.refl _ _⟩
    case round =>
      obtain ⟨k, x, hk, hxk, rfl, rfl, hown, hlow⟩ := hrel
      have hlw := Below.trans0 HW.out.1 hlow
      have hE := HH.out.keep hlw (Nat.le_refl _)
      have b0 := HW.out.2.1.below hlow
      have b1 := HW.out.2.2.below hlow
      have c0 := b0.cell
      have c1 := b1.cell
      have l0 := b0.lt
      have l1 := b1.lt
      have hbr : w.heap.size ≤ wr.heap.size := hlw.size
      have hWr : W.heap.size ≤ wr.heap.size := hlow.size
      have hwW : w.heap.size ≤ W.heap.size := HW.out.1.size
      obtain ⟨A7, c7, rfl, hc7, hm7⟩ := hown.form
      have HO := Lib.hid hown
      have HY := Lib.hid (And.intro hlow (And.intro hlw (And.intro b0 b1)))
      clear hlow hlw hown b0 b1
      by_cases h0 : 0 ≤ x
      · obtain ⟨n, rfl⟩ : ∃ n : Nat, x = n := ⟨x.toNat, by omega⟩
        obtain rfl : k = n + 1 := by omega
        have hn : n < zs.length := by omega
        obtain ⟨b, off, z, rfl, hb, Hk, Hrd, hz, Hz⟩ := pick_zone2 hE hn
        have bw : b < wr.heap.size := by omega
        have hnl : (n : Int) < (zs.length : Int) := by omega
        have hnc : (n : Int) < (zc : Int) := by omega
        have hnc2 : (n : Int) + 1 ≤ (zc : Int) := by omega
        have HZL := Lib.hid hz
        have HE1 := Lib.hid (one_at hE Hk.out)
        have Hdrop := Lib.hid (drop_cons Hk.out)
        clear hE hz hxk
        obtain ⟨sv, hsv⟩ : ∃ v, ((zs.drop (n + 1)).any fun z => inZ z f) = v := ⟨_, rfl⟩
        rw [hsv]
        have Hsv := Lib.hid hsv
        clear hsv
        obtain ⟨hv, hhv⟩ : ∃ v, ([z].any fun z => inZ z f) = v := ⟨_, rfl⟩
        have Hhv := Lib.hid hhv
        have Hsome : Hid (((zs.drop n).any fun z => inZ z f) = (sv || hv)) := Lib.hid (by rw [Hdrop.out, List.any_cons, Hsv.out, ← hhv]; simp [Bool.or_comm])
        clear hhv
        have Hadd : Hid (dbl (zs.drop n) = dbl (zs.drop (n + 1)) ++ [z, z]) := Lib.hid (by rw [Hdrop.out, dbl_cons])
        have hdl : (dbl (zs.drop (n + 1))).length ≤ 120 := by rw [dbl_len, List.length_drop]; omega
        have Hlen : Hid (n ≤ zs.length ∧ (n : Int) - 1 + 1 = (n : Nat)) := Lib.hid ⟨by omega, by omega⟩
        have hWX := Lib.hid (And.intro hbr (And.intro hWr hwW))
        have hnn : IntKind.i64.wrap ((n : Int) - 1) = (n : Int) - 1 := IntWalk.i64_in _ (by omega)
        have Hmain : Hid (∀ (v : World) (t7 : Value), OwnL tZn 44 v W.heap.size w.heap.size t7 (dbl (zs.drop (n + 1)) ++ [z, z]) → OwnL tZn 44 v W.heap.size w.heap.size t7 (dbl (zs.drop n))) := Lib.hid fun v t7 h => by rw [Hadd.out]; exact h
        obtain ⟨qs, hqs⟩ : ∃ q, dbl (zs.drop (n + 1)) = q := ⟨_, rfl⟩
        rw [hqs] at HO hdl Hmain hc7 ⊢
        clear hqs Hadd hnn
        cases sv
        all_goals
          cases hv
        all_goals
          go_wp2_with fail
          refine wp_region_ext wr (by kernel_rfl) (by kernel_rfl) ?_
          repeat (go_big_quiet_step ((go_at_call 12; exact Calls.in_ext (holds_in HE1.out hWX.out.1 (by simp) HF.out _ Hhv.out _ (below_ext _ _)))))
          refine wpQuiet_nil (fun v => ?_)
          refine forget_then (fun X => Below wr.heap.size wr X) (below_ext wr v) ?_
          intro X hX
          have lX : w.heap.size < X.heap.size := by have := hX.size; omega
          have cX : ∀ i, X.cell? ⟨w.heap.size, i, none⟩ = #[Value.int .i64 kd, .string nm, .slice (some ⟨b, off, none⟩) zs.length zc, .int .i64 num, .int .i64 rn, .int .i64 rd, .int .i64 sn, .int .i64 sd][i]? := (HY.out.2.2.1.below hX).cell
          have HOX := Lib.hid (And.intro (HO.out.below hX (by omega)) hX)
          have HzX : Hid (∀ j u, (znV z)[j]? = some u → X.cell? ⟨b, off + n * 20 + j, none⟩ = some u) := Lib.hid fun j u hu => (hX.cell (p := ⟨b, off + n * 20 + j, none⟩) bw).trans (Hz.out j u hu)
          have bX : b < X.heap.size := by have := hX.size; omega
          have hsX : W.heap.size ≤ X.heap.size := by have := hX.size; omega
          have HrdX : Hid (tZn.rd X w.heap.size (pairsV z) z) := Lib.hid (tZn.keep (hX.mono hbr) (Nat.le_refl _) Hrd.out)
          clear hX c0 c1 l0 l1 bw
          go_wp2_with fail
          have lwW := HW.out.2.1.lt
          have bW : b < W.heap.size := Nat.lt_of_lt_of_le hb hWX.out.2.2
          have hS0 : Below W.heap.size X X.drew := (Below.refl _ _).drew
          have HS0 := Lib.hid hS0
          clear hS0 lX bX
          refine region_plan (S := fun w' => ∃ u, w' = extB W.heap.size X u) [([0, 1, 2, 3, 4, 5, 6, 7, 8, 9, 10], [11, 12]), ([13], [])] (by kernel_rfl) (by kernel_rfl) (mem_extB hsX HS0.out) ?_
          refine plan_take (fun K9 h9 => ?_)
          simp only [List.map_cons, List.map_nil, pickO, List.getD_cons_zero, List.getD_cons_succ]
          iterate 5 (go_big_quiet_step (fail))
          go_big_quiet_want
          refine quiet_load_at _ _ rfl b (off + n * 20) rfl (znV z) _ (fun w9 hw9 j u hu => by obtain ⟨u9, rfl⟩ := hw9; rw [extB_cell hsX _ _ bW]; exact HzX.out j u hu) Try.underlying44 rfl (by rw [znV_size HZL.out]; kernel_rfl) ?_
          go_simp
          go_big_quiet_on
          iterate 4 (go_big_quiet_step (fail))
          go_big_quiet_want
          refine quiet_load_at _ _ rfl b (off + n * 20) rfl (znV z) _ (fun w9 hw9 j u hu => by obtain ⟨u9, rfl⟩ := hw9; rw [extB_cell hsX _ _ bW]; exact HzX.out j u hu) Try.underlying44 rfl (by rw [znV_size HZL.out]; kernel_rfl) ?_
          go_simp
          go_big_quiet_on
          refine wpQuiet_nil (h9 _ ?_)
          clear h9 K9
          refine plan_run (fun K9 h9 => ?_)
          simp only [pickO, List.getD_cons_zero, List.getD_cons_succ]
          refine list_lit2 rfl _ 44 _ _ rfl 20 (znV z) (znV z) rfl rfl (znV_size HZL.out) (znV_size HZL.out) Try.underlying30 (by kernel_rfl) (by decide) (by decide) (by kernel_rfl) ?_
          show K9 _ _
          go_simp
          refine h9 _ _ (mem_extB hsX (HS0.out.alloc hsX _)) ?_
          clear h9 K9
          refine plan_run (fun K9 h9 => ?_)
          simp only [pickO, List.getD_cons_zero, List.getD_cons_succ]
          refine list_appendL (T := tZn) (base := W.heap.size) (B := w.heap.size) (qs := qs) rfl _ _ _ rfl 160 Try.underlying30 (by kernel_rfl) (by decide) one_zn rfl
            (HOX.out.1.below ((Below.refl _ X).drew.alloc (Nat.le_refl _) _) (by omega)) (some ⟨X.heap.size, 0, none⟩) 2 2 [z, z] [pairsV z, pairsV z] rfl rfl rfl
            (fun i h1 h2 => by
              rcases (show i = 0 ∨ i = 1 by simp at h1; omega) with rfl | rfl
              · exact tZn.keep ((Below.refl _ X).drew.alloc (Nat.le_trans hWX.out.2.2 hsX) _) (Nat.le_refl _) HrdX.out
              · exact tZn.keep ((Below.refl _ X).drew.alloc (Nat.le_trans hWX.out.2.2 hsX) _) (Nat.le_refl _) HrdX.out)
            (by have := lies_bk ((Bk.new X ((znV z).toList ++ (znV z).toList).toArray 44).drew) 2; simpa [znV] using this) (by unfold maxLen; omega) (by omega) (by simp; omega) hWX.out.2.2 ?_
          intro A8 c8 w8 hown8 hbel8 hg8 hd8
          show K9 _ _
          go_simp
          have hB8 : Below W.heap.size X w8 := (HS0.out.alloc hsX _).trans hbel8
          have H8 := Lib.hid (And.intro (Hmain.out _ _ hown8) hB8)
          refine h9 _ _ (mem_extB hsX hB8) ?_
          clear h9 K9 hown8 hbel8 hg8 hd8 hB8
          refine plan_next ?_
          refine plan_take (fun K9 h9 => ?_)
          simp only [List.map_cons, List.map_nil, pickO, List.getD_cons_zero, List.getD_cons_succ]
          repeat (go_big_quiet_step (fail))
          refine wpQuiet_nil (h9 _ ?_)
          clear h9 K9
          refine plan_next (plan_end ?_)
          go_wp2_with fail
          go_roundw
          case rel => exact ⟨n, (n : Int) - 1, Hlen.out.1, Hlen.out.2, rfl, val_bool (by rw [Hsome.out]; rfl), H8.out.1, ((HY.out.1.trans (HOX.out.2.mono hWX.out.2.1)).trans H8.out.2)⟩
          case measure => first | (simp [intOf]; done) | (simp [intOf]; omega)
      · obtain rfl : x = -1 := by omega
        obtain rfl : k = 0 := by omega
        clear h0 hxk hk
        obtain ⟨sv, hsv⟩ : ∃ v, (zs.any fun z => inZ z f) = v := ⟨_, rfl⟩
        have hdr : zs.drop 0 = zs := rfl
        rw [hdr] at HO hc7 ⊢
        rw [hsv]
        have Hsv := Lib.hid hsv
        have Hd := Lib.hid ((dbl_any (fun z => inZ z f) zs).trans hsv)
        have hdl : (dbl zs).length ≤ 120 := by rw [dbl_len]; omega
        have HD7 := Lib.hid (HO.out.elems (B2 := wr.heap.size) hbr (Nat.le_refl _))
        have HEr := Lib.hid (hE)
        clear hE hsv hdr
        generalize dbl zs = qs at *
        have hql : qs.length ≤ 9223372036854775807 := by omega
        have hzl : zs.length ≤ 9223372036854775807 := by omega
        go_upto_region 13 with (fail)
        refine forget (fun X => Below wr.heap.size wr X ∧ Bk X wr.heap.size #[.int .i64 kd, .string nm, .slice A7 qs.length c7, .int .i64 num, .int .i64 rn, .int .i64 rd, .int .i64 sn, .int .i64 sd] 34) ⟨?_, ?_⟩ ?_
        · (repeat (first | with_reducible exact Below.refl _ _ | with_reducible assumption | with_reducible refine Below.alloc0 ?_ _ | with_reducible refine Below.ext0 ?_ _ | with_reducible refine Below.drew ?_ | with_reducible refine below_drewN ?_ _ | (with_reducible refine Below.setCell (hp := ?hp) ?_ _; case hp => (first | (simp; done) | (simp; omega)))))
        · exact (Bk.new wr #[.int .i64 kd, .string nm, .slice A7 qs.length c7, .int .i64 num, .int .i64 rn, .int .i64 rd, .int .i64 sn, .int .i64 sd] 34)
        rintro X ⟨hX, b9⟩
        have c0 := (HY.out.2.2.1.below hX).cell
        have c1 := (HY.out.2.2.2.below hX).cell
        have l0 := (HY.out.2.2.1.below hX).lt
        have l1 := (HY.out.2.2.2.below hX).lt
        have c9 := b9.cell
        have l9 := b9.lt
        have HX := Lib.hid hX
        clear hX b9
        cases sv
        all_goals
          go_wp2_with fail
          with_reducible refine (holds_in HEr.out hbr hzl HF.out _ Hsv.out _ (by have hw := HX.out; (repeat (first | with_reducible exact Below.refl _ _ | with_reducible assumption | with_reducible refine Below.alloc0 ?_ _ | with_reducible refine Below.ext0 ?_ _ | with_reducible refine Below.drew ?_ | with_reducible refine below_drewN ?_ _ | (with_reducible refine Below.setCell (hp := ?hp) ?_ _; case hp => (first | (simp; done) | (simp; omega))))))).mono ?_
          rintro e w' ⟨rfl, hb⟩
          (first | (obtain ⟨u, rfl⟩ := ext_more hb; clear hb) | (obtain ⟨u, rfl⟩ := ext_more_alloc hb; clear hb) | (obtain ⟨u, rfl⟩ := ext_of hb; clear hb))
          go_wp2_with fail
          with_reducible refine (holds_in HD7.out (Nat.le_refl _) hql HF.out _ Hd.out _ (by have hw := HX.out; (repeat (first | with_reducible exact Below.refl _ _ | with_reducible assumption | with_reducible refine Below.alloc0 ?_ _ | with_reducible refine Below.ext0 ?_ _ | with_reducible refine Below.drew ?_ | with_reducible refine below_drewN ?_ _ | (with_reducible refine Below.setCell (hp := ?hp) ?_ _; case hp => (first | (simp; done) | (simp; omega))))))).mono ?_
          rintro e w' ⟨rfl, hb⟩
          (first | (obtain ⟨u, rfl⟩ := ext_more hb; clear hb) | (obtain ⟨u, rfl⟩ := ext_more_alloc hb; clear hb) | (obtain ⟨u, rfl⟩ := ext_of hb; clear hb))
          go_wp2_with fail
          go_ret
          exact ⟨rfl, by have hw := Below.trans0 HY.out.2.1 HX.out; (repeat (first | with_reducible exact Below.refl _ _ | with_reducible assumption | with_reducible refine Below.alloc0 ?_ _ | with_reducible refine Below.ext0 ?_ _ | with_reducible refine Below.drew ?_ | with_reducible refine below_drewN ?_ _ | (with_reducible refine Below.setCell (hp := ?hp) ?_ _; case hp => (first | (simp; done) | (simp; omega)))))⟩

set_option maxRecDepth 100000 in
theorem decideZones_lifted (os : Os) (started : os.Started) (H : Type) (enc : TypeId × Value → H) :
    ReturnsInHanded {} Try.checked os 5 .any (Rows.decideZonesSpec.pre6 enc Try.prog Try.f5 [] false) (Rows.decideZonesSpec.post enc Try.prog Try.f5 false true false false) := by
  refine law_lifted (C := Try.checked) own started (by kernel_rfl) Try.func5 rfl (fun ds hds => ?_) (tb := 4) (by kernel_rfl) Try.underlying4 laidOut (fun t ht => ?_)
    (ChangeSpec.witness6 (enc := enc) (C := Try.checked) false ⟨#[], #[.agg #[.int .i64 0, .string ⟨#[]⟩, .slice none 0 0, .int .i64 0, .int .i64 0, .int .i64 0, .int .i64 0, .int .i64 0], .agg #[.int .i64 0, .int .i64 0, .int .i64 0, .int .i64 0, .int .i64 0, .int .i64 0, .int .i64 0, .int .i64 0, .int .i64 0, .int .i64 0]], []⟩ 8 (by kernel_rfl) (by kernel_rfl) (by kernel_rfl) (by kernel_rfl)) ?_
  · rw [Try.params5] at hds
    match ds, hds with
    | [_, _], _ => rfl
  · have := List.all_eq_true.1 (show (Try.f5.params.toList.all fun t => Try.prog.readableRec t && decide (t < Try.prog.types.size)) = true by kernel_rfl) t ht
    simp only [Bool.and_eq_true, decide_eq_true_eq] at this
    exact this
  · intro W args g
    rw [Try.params5] at g
    obtain ⟨v0, q0, e0, g0, h0⟩ := g.cons_inv
    obtain ⟨v1, q1, rfl, g1, h1⟩ := h0.cons_inv
    obtain rfl := h1.nil_inv
    obtain rfl : args = #[v0, v1] := by cases args; simp_all
    obtain ⟨c0, y0, rfl, r0⟩ := g0.agg Try.underlying34 opensRl
    obtain ⟨c1, y1, rfl, r1⟩ := g1.arr Try.underlying26 opensFc
    obtain ⟨kd, nm, AZ, zs, zc, num, rn, rd, sn, sd, rfl, e1, b1, b2, b3, b4, _⟩ := rule_of r0
    obtain ⟨e2, b5, b6⟩ := fac_of r1
    rw [e1, e2]
    exact zones13 kd nm AZ zs zc num rn rd sn sd y1 W b4 b2 b3 b5

theorem decideZones_holds : Rows.DecideZonesSaid :=
  OpenClaim.holds_of_wide 5 Try.f5 rfl rfl rfl rfl rfl rfl rfl ⟨rfl, rfl, rfl, rfl, rfl⟩ rfl rfl rfl rfl rfl (by kernel_rfl) Try.func5 (by kernel_rfl)
    (of_decide_eq_true (by kernel_rfl)) (by unfold Func.isWrapper; first | (rw [if_pos (by decide +kernel)]; kernel_rfl) | (rw [if_neg (by decide +kernel)]; exact ⟨rfl, rfl⟩))
    (fun os started H enc _ => decideZones_lifted os started H enc)
#print axioms decideZones_holds

end Go.Proofs.Ytmklcfmdcfbpeaa
