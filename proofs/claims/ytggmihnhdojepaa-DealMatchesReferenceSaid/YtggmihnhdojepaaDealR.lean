/- Layer 34 (deal), the reference: bookings by value: post, paid. -/
import Derived.Test.YtggmihnhdojepaaDealM
import Derived.Test.YtggmihnhdojepaaDealO
namespace Go.Proofs.Ytggmihnhdojepaa
open Go.RowKit
set_option linter.unusedVariables false
set_option linter.unusedSimpArgs false
attribute [local go_sem] ext_cell ext_frozen lt_ext ext_drew

/-- How the reference's post and paid leave a booking. -/
def PostedR (w : World) (base : Nat) (v : Value) (qs : List Pst) (e : Ending) (w' : World) : Prop :=
  ∃ v', e = .returned (.agg #[.int .i64 0, v']) ∧ OwnL tPst 55 w' base 0 v' qs ∧ Only (fun g => v.ownBlock = some g) w w' ∧ (∀ g, v'.ownBlock = some g → v.ownBlock = some g ∨ w.heap.size ≤ g)

set_option maxRecDepth 100000 in
set_option maxHeartbeats 4000000 in
theorem rpost_any (base : Nat) (v : Value) (qs : List Pst) (kd : Int) (nm : ByteArray) (a : Int) (w : World) (h : OwnL tPst 55 w base 0 v qs) (hbase : base ≤ w.heap.size) (hl : qs.length ≤ 1000) (f1 : fits kd) (f2 : nm.size ≤ maxLen) (f3 : fits a) :
    Calls Try.prog 38 #[.agg #[.int .i64 0, v], .int .i64 kd, .string nm, .int .i64 a] w (PostedR w base v (qs ++ postL [((kd, nm), a)])) := by
  obtain ⟨A7, c7, rfl, hc7, hm7⟩ := h.form
  have HH := Lib.hid h
  have hm7' : c7 ≤ 9223372036854775807 := by unfold maxLen at hm7; omega
  have Hrd : Hid (∀ X : World, tPst.rd X 0 [.int .i64 kd, .string nm, .int .i64 a] ((kd, nm), a)) := Lib.hid fun X => ⟨[.int .i64 kd, .string nm], [.int .i64 a], rfl, ⟨[.int .i64 kd], [.string nm], rfl, ⟨rfl, f1⟩, ⟨rfl, f2⟩⟩, ⟨rfl, f3⟩⟩
  have hol := h.lt
  clear h hm7 f1 f2 f3
  by_cases ha : a = 0
  · subst ha
    have hq : qs ++ postL [((kd, nm), (0:Int))] = qs := by simp [postL, nzP]
    rw [hq]
    go_enter Try.func38, Try.ntmps38
    go_wp2_with fail
    refine bodyPost_ret (v := .agg #[.int .i64 0, .slice A7 qs.length c7]) (by simp [results, Try.results38, go_sem]) rfl ?_
    exact ⟨_, rfl, (HH.out.below (below_self _ _) (by omega)).below (below_self _ _) (by omega), ((Only.refl _ w).alloc _).alloc _, fun g hg => .inl hg⟩
  · have hq : qs ++ postL [((kd, nm), a)] = qs ++ [((kd, nm), a)] := by simp [postL, nzP, ha]
    rw [hq]
    have hL := lies_bk (bk_new_at ((w.alloc (.cells #[.int .i64 0, .slice A7 qs.length c7] 34)).alloc (.cells #[.int .i64 0, .slice none 0 0] 34)) (w.heap.size + 2) #[.int .i64 kd, .string nm, .int .i64 a] 55 (by simp)) 1
    have hOw : OwnL tPst 55 (((w.alloc (.cells #[.int .i64 0, .slice A7 qs.length c7] 34)).alloc (.cells #[.int .i64 0, .slice none 0 0] 34)).alloc (.cells #[.int .i64 kd, .string nm, .int .i64 a] 55)) base 0 (.slice A7 qs.length c7) qs := ((HH.out.below (below_self _ _) (by omega)).below (below_self _ _) (by omega)).below (below_self _ _) (by omega)
    have HLO := Lib.hid (And.intro hL hOw)
    clear hL hOw
    go_enter Try.func38, Try.ntmps38
    go_wp2_with (at_builtin; go_loud (refine list_appendL (T := tPst) (base := base) (B := 0) (qs := qs) (v := .slice A7 qs.length c7) rfl _ _ _ rfl 32 Try.underlying32 (by kernel_rfl) (by decide) one_pst rfl HLO.out.2 (some ⟨w.heap.size + 2, 0, none⟩) 1 1 [_] [[.int .i64 kd, .string nm, .int .i64 a]] rfl rfl rfl (fun i h1 h2 => by obtain rfl : i = 0 := (by simp at h1; omega); exact Hrd.out _) HLO.out.1 (by unfold maxLen; omega) (by omega) (by simp; omega) (by omega) ?_))
    intro A8 c8 w8 hown hbel hg hd
    have hn0 : some w.heap.size ≠ (Value.slice A7 qs.length c7).ownBlock := fun e => by have := hol _ e.symm; omega
    have hn1 : some (w.heap.size + 1) ≠ (Value.slice A7 qs.length c7).ownBlock := fun e => by have := hol _ e.symm; omega
    have b0 : Bk w8 w.heap.size #[.int .i64 0, .slice A7 qs.length c7] 34 := grown_bk hg (((Bk.new w _ _).alloc _).alloc _) hn0
    have b1 : Bk w8 (w.heap.size + 1) #[.int .i64 0, .slice none 0 0] 34 := grown_bk hg ((bk_new_at _ _ _ _ (by simp)).alloc _) hn1
    have hO8 : Only (fun g => (Value.slice A7 qs.length c7).ownBlock = some g) w w8 := ((((Only.refl _ w).alloc _).alloc _).alloc _).grown hg (fun g e => .inl e)
    have hnew : ∀ g, (Value.slice A8 (qs.length + 1) c8).ownBlock = some g → (Value.slice A7 qs.length c7).ownBlock = some g ∨ w.heap.size + 2 < g := fun g e => by
      rw [own_map] at e
      rcases hd with h | ⟨x, h1, h2⟩
      · exact .inl (h.symm.trans e)
      · right
        rw [h1] at e
        simp at e
        omega
    have x0 := b0.cell
    have x1 := b1.cell
    have e0 := b0.free
    have e1 := b1.free
    have l0 := b0.lt
    have l1 := b1.lt
    have HX := Lib.hid (And.intro hown (And.intro hO8 hnew))
    clear hbel hg hd hown hO8 hnew b0 b1 HLO
    go_wp2_with fail
    have ho9 : Only (fun g => g = w.heap.size ∨ g = w.heap.size + 1) w8 (((w8.setCell ⟨w.heap.size, 1, none⟩ (.slice A8 (qs.length + 1) c8)).setCell ⟨w.heap.size + 1, 0, none⟩ (.int .i64 0)).setCell ⟨w.heap.size + 1, 1, none⟩ (.slice A8 (qs.length + 1) c8)) := (((Only.refl (fun g => g = w.heap.size ∨ g = w.heap.size + 1) w8).set_ (p := ⟨w.heap.size, 1, none⟩) (.inl (.inl rfl)) _).set_ (p := ⟨w.heap.size + 1, 0, none⟩) (.inl (.inr rfl)) _).set_ (p := ⟨w.heap.size + 1, 1, none⟩) (.inl (.inr rfl)) _
    have hlen : (qs ++ [((kd, nm), a)]).length = qs.length + 1 := by simp
    refine bodyPost_ret (v := .agg #[.int .i64 0, .slice A8 (qs.length + 1) c8]) (by simp [results, Try.results38, go_sem, x0, x1, e0, e1, l0, l1]) rfl ⟨_, rfl, HX.out.1.only ho9 (fun g hg => by omega) (by omega) (fun g hg h => ?_), ?_, fun g hg => (HX.out.2.2 g hg).imp id (fun h => by omega)⟩
    · rcases HX.out.2.2 g hg with h3 | h3
      · have := hol g h3; omega
      · omega
    · exact ((HX.out.2.1.set_ (p := ⟨w.heap.size, 1, none⟩) (.inr (Nat.le_refl _)) _).set_ (p := ⟨w.heap.size + 1, 0, none⟩) (.inr (by show w.heap.size ≤ w.heap.size + 1; omega)) _).set_ (p := ⟨w.heap.size + 1, 1, none⟩) (.inr (by show w.heap.size ≤ w.heap.size + 1; omega)) _
theorem OwnL.base {α : Type} {T : Ty α} {e : TypeId} {X : World} {base B b0 : Nat} {v : Value} {qs : List α} (h : OwnL T e X base B v qs) (hb : b0 ≤ base) : OwnL T e X b0 B v qs := by
  obtain ⟨css, h1, h2, h3, h4⟩ := h
  exact ⟨css, h1, h2, h3, h4.imp id fun ⟨g, cap, cur, e1, e2, e3⟩ => ⟨g, cap, cur, e1, Nat.le_trans hb e2, e3⟩⟩


set_option maxRecDepth 100000 in
set_option maxHeartbeats 4000000 in
theorem paid_any (A : Option Addr) (ms : List Mn) (cap n : Nat) (s : Int) (w : World) (B : Nat) (hp : Elems tMean w B A ms) (hB : B ≤ w.heap.size) (hn : ms.length = n) (hl : n ≤ 100) (hm : ∀ m ∈ ms, 0 ≤ m.2 ∧ m.2 ≤ 1000000000) (hs : s = 1 ∨ s = -1) :
    Calls Try.prog 37 #[.slice A n cap, .int .i64 s] w (PostedR w w.heap.size (.slice none 0 0) (payL ms s)) := by
  subst hn
  have HP := Lib.hid hp
  have HM := Lib.hid hm
  have HS := Lib.hid hs
  have hs1 : -1 ≤ s ∧ s ≤ 1 := by omega
  obtain ⟨s1, s2⟩ := hs1
  clear hp hm hs
  go_enter Try.func37, Try.ntmps37
  go_upto_region 2 with (fail)
  refine forget (fun Y => Below w.heap.size w Y ∧ Bk Y w.heap.size #[.int .i64 0, .slice none 0 0] 34 ∧ Bk Y (w.heap.size + 1) #[.int .i64 0, .slice none 0 0] 34 ∧ Y.heap.size = w.heap.size + 2) ⟨by (repeat (first | with_reducible exact Below.refl _ _ | with_reducible assumption | with_reducible refine Below.alloc0 ?_ _ | with_reducible refine Below.ext0 ?_ _ | with_reducible refine Below.drew ?_ | with_reducible refine below_drewN ?_ _ | (with_reducible refine Below.setCell (hp := ?hp) ?_ _; case hp => (first | (simp; done) | (simp; omega))))), (Bk.new _ _ _).alloc _, bk_new_at _ _ _ _ (by simp), by simp⟩ ?_
  rintro Y ⟨hw, b0, b1, hY⟩
  obtain ⟨g, hg⟩ : ∃ g, w.heap.size = g := ⟨_, rfl⟩
  rw [hg] at hw b0 b1 hY ⊢
  rw [hg] at hB
  have HY := Lib.hid (And.intro hw b0)
  have Hb1 := Lib.hid b1
  clear hw b0 b1
  go_wp2_with fail
  go_loopw [6] (fun i wr => ∃ (k : Nat) (v' : Value), k ≤ ms.length ∧ i = .int .i64 k ∧ Bk wr (g + 1) #[.int .i64 0, v'] 34 ∧ OwnL tPst 55 wr (g + 2) 0 v' (payL (ms.take k) s) ∧ Only (fun b => b = g + 1) Y wr) (fun i _ => ms.length - (intOf i).toNat)
  case atStart => exact ⟨0, _, by omega, rfl, Hb1.out, OwnL.nil, Only.refl _ _⟩
  case round =>
    obtain ⟨k, v', hk, rfl, hbk, hown, ho⟩ := hrel
    have hsz := ho.size
    have hE := HP.out.keep ((HY.out.1.trans (ho.to_below (B := g) (fun b hb => by omega) (by omega))).mono hB) (Nat.le_refl _)
    have hql := payL_len ms s k
    have hol := hown.lt
    have c1 := hbk.cell
    have l1 := hbk.lt
    have e1 := hbk.free
    have HB := Lib.hid (And.intro hbk (And.intro hown ho))
    by_cases hlt : k < ms.length
    · obtain ⟨b, off, nm, a, rfl, hb, Hk, d0, d1, f1, f2⟩ := pick_mean hE hlt
      have bw : b < wr.heap.size := by omega
      have hkl : (k : Int) < (ms.length : Int) := by omega
      obtain ⟨a1, a2⟩ := HM.out _ (List.mem_of_getElem? Hk.out)
      obtain ⟨p1, p2⟩ := mul_sign HS.out ⟨a1, a2⟩
      obtain ⟨x, hx⟩ : ∃ x, s * a = x := ⟨_, rfl⟩
      have hst := payL_take s Hk.out
      simp only at hst
      rw [hx] at p1 p2 hst
      have Hst := Lib.hid hst
      clear hst hE hbk hown ho
      obtain ⟨q2, hq2⟩ : ∃ q, payL (ms.take k) s = q := ⟨_, rfl⟩
      rw [hq2] at HB hql Hst
      clear hq2
      go_wp2_with fail
      refine wp_region_tail 13 (by kernel_rfl) (by kernel_rfl) ?_
      simp only [List.take_succ_cons, List.take_zero, List.drop_succ_cons, List.drop_zero]
      repeat (go_big_quiet_step (fail))
      refine wpQuiet_nil ?_
      go_wp2_with fail
      refine (rpost_any (g + 2) v' q2 5 nm x wr.drew (HB.out.2.1.below ((Below.refl _ _).drew) (by omega)) (by show g + 2 ≤ wr.heap.size; omega) (by omega) (by show _ ≤ (5:Int) ∧ (5:Int) ≤ _; omega) f1 (by show _ ≤ x ∧ x ≤ _; omega)).mono ?_
      rintro e w2 ⟨v2, rfl, z1, z2, z3⟩
      have b2 : Bk w2 (g + 1) #[.int .i64 0, v'] 34 := HB.out.1.drew.only z2 (fun h => by have := hol _ h; omega)
      have hsz2 : wr.heap.size ≤ w2.heap.size := z2.size
      have ho2 : Only (fun b => b = g + 1) Y w2 := (HB.out.2.2.drew).trans2 z2 (fun b hb => .inr (by have := hol _ hb; omega))
      have c2 := b2.cell
      have l2 := b2.lt
      have e2 := b2.free
      obtain ⟨A8, c8, rfl, _, _⟩ := z1.form
      have hnb : ∀ b, (Value.slice A8 (q2 ++ postL [((5, nm), x)]).length c8).ownBlock = some b → b ≠ g + 1 := fun b hb => by have := (z1.lt b hb).1; omega
      have HZ := Lib.hid (And.intro b2 (And.intro z1 ho2))
      obtain ⟨q3, hq3⟩ : ∃ q, q2 ++ postL [((5, nm), x)] = q := ⟨_, rfl⟩
      rw [hq3] at HZ hnb
      have Hq3 := Lib.hid hq3
      clear hq3
      clear b2 z1 z2 z3 ho2 c1 l1 e1 d0 d1 hx
      rw [Hq3.out]
      go_wp2_with fail
      have ho9 : Only (fun b => b = g + 1) w2 ((w2.setCell ⟨g + 1, 0, none⟩ (.int .i64 0)).setCell ⟨g + 1, 1, none⟩ (.slice A8 q3.length c8)) := ((Only.refl (fun b => b = g + 1) w2).set_ (p := ⟨g + 1, 0, none⟩) (.inl rfl) _).set_ (p := ⟨g + 1, 1, none⟩) (.inl rfl) _
      go_roundw
      case rel => exact ⟨k + 1, _, by omega, by go_num, (HZ.out.1.set_ 0 (.int .i64 0)).set_ 1 (.slice A8 q3.length c8), by rw [Hst.out, Hq3.out]; exact HZ.out.2.1.only ho9 (fun b hb => by omega) (by omega) (fun b hb h => hnb b hb h), HZ.out.2.2.trans ho9⟩
      case measure => simp [intOf]; omega
    · obtain rfl : k = ms.length := by omega
      rw [List.take_length] at HB
      obtain ⟨A8, c8, rfl, _, _⟩ := hown.form
      have b0 := HY.out.2.only ho (by omega)
      have c0 := b0.cell
      have l0 := b0.lt
      have e0 := b0.free
      clear hE hbk hown ho b0
      simp only [List.take_length] at c1 hol HB
      generalize payL ms s = q3 at *
      go_wp2_with fail
      have ho9 : Only (fun b => b = g) wr ((wr.setCell ⟨g, 0, none⟩ (.int .i64 0)).setCell ⟨g, 1, none⟩ (.slice A8 q3.length c8)) := ((Only.refl (fun b => b = g) wr).set_ (p := ⟨g, 0, none⟩) (.inl rfl) _).set_ (p := ⟨g, 1, none⟩) (.inl rfl) _
      have hE9 := (HB.out.2.1.only ho9 (fun b hb => by omega) (by omega) (fun b hb h => by have := (HB.out.2.1.lt b hb).1; omega)).base (b0 := g) (by omega)
      have hB9 : Below w.heap.size w _ := (HY.out.1.trans (HB.out.2.2.to_below (B := g) (fun b hb => by omega) (by omega))).trans (ho9.to_below (B := g) (fun b hb => by omega) (by omega)) |>.mono (by omega)
      exact bodyPost_ret (v := .agg #[.int .i64 0, .slice A8 q3.length c8]) (by simp [results, Try.results37, go_sem, c0, l0, e0]) rfl ⟨_, rfl, by rw [hg]; exact hE9, Only.of_below hB9, fun b hb => .inr (by have := (HB.out.2.1.lt b hb).1; omega)⟩
end Go.Proofs.Ytggmihnhdojepaa
