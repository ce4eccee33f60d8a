/- Layer 34 (deal): postings, as lists; post and pay. -/
import Derived.Test.YtggmihnhdojepaaDealF
import Derived.Test.YtggmihnhdojepaaRow
import Derived.Test.YtggmihnhdojepaaExtN
namespace Go.Proofs.Ytggmihnhdojepaa
open Go.RowKit
set_option linter.unusedVariables false
set_option linter.unusedSimpArgs false
attribute [local go_sem] ext_cell ext_frozen lt_ext ext_drew lt_extN

/-- A posting: its account's kind and name, its amount. -/
abbrev Pst := (Int × ByteArray) × Int
abbrev tPst : Ty Pst := tPair (tPair tInt tStr) tInt
def nzP (p : Pst) : Bool := decide (p.2 ≠ 0)
/-- What post adds. -/
def postL (ps : List Pst) : List Pst := ps.filter nzP
theorem postL_take {ps : List Pst} {k : Nat} {p : Pst} (h : ps[k]? = some p) : postL (ps.take (k + 1)) = postL (ps.take k) ++ if p.2 = 0 then [] else [p] := by
  unfold postL
  rw [List.take_add_one, h, List.filter_append]
  congr 1
  by_cases e : p.2 = 0 <;> simp [nzP, e]
def payL (ms : List Mn) (s : Int) : List Pst := postL (ms.map fun m => ((5, m.1), s * m.2))
theorem payL_take {ms : List Mn} {k : Nat} {m : Mn} (s : Int) (h : ms[k]? = some m) : payL (ms.take (k + 1)) s = payL (ms.take k) s ++ postL [((5, m.1), s * m.2)] := by
  unfold payL postL
  rw [List.take_add_one, h, List.map_append, List.filter_append]
  rfl

theorem of_any (kd : Int) (nm : ByteArray) (n : Int) (w : World) : Calls Try.prog 32 #[.int .i64 kd, .string nm, .int .i64 n] w fun e w' => e = .returned (.agg #[.int .i64 kd, .string nm, .int .i64 n]) ∧ Below w.heap.size w w' := by
  go_enter Try.func32, Try.ntmps32
  go_wp2_with fail
  first
    | (go_ret; exact ⟨rfl, by (repeat (first | with_reducible exact Below.refl _ _ | with_reducible assumption | with_reducible refine Below.alloc0 ?_ _ | with_reducible refine Below.ext0 ?_ _ | with_reducible refine Below.drew ?_ | with_reducible refine below_drewN ?_ _ | (with_reducible refine Below.setCell (hp := ?hp) ?_ _; case hp => (first | (simp; done) | (simp; omega)))))⟩)
    | (refine bodyPost_ret (v := .agg #[.int .i64 kd, .string nm, .int .i64 n]) (by simp [results, Try.results32, go_sem]) rfl ⟨rfl, by (repeat (first | with_reducible exact Below.refl _ _ | with_reducible assumption | with_reducible refine Below.alloc0 ?_ _ | with_reducible refine Below.ext0 ?_ _ | with_reducible refine Below.drew ?_ | with_reducible refine below_drewN ?_ _ | (with_reducible refine Below.setCell (hp := ?hp) ?_ _; case hp => (first | (simp; done) | (simp; omega)))))⟩)
theorem flat_str : Flat tStr := fun h => h
theorem flat_pst : Flat tPst := flat_pair (flat_pair flat_int flat_str) flat_int
theorem own_map (A : Option Addr) (n c : Nat) : (Value.slice A n c).ownBlock = A.map (·.block) := by cases A <;> rfl
theorem one_pst : ∀ (w : World) (B : Nat) (cs : List Value) (x : Pst), tPst.rd w B cs x → ∀ u ∈ cs, u.oneCell' = true := fun w B cs x hr u hu => by
  obtain ⟨⟨kd, nm⟩, a⟩ := x
  obtain ⟨c1, c2, rfl, ⟨c3, c4, rfl, ⟨rfl, _⟩, ⟨rfl, _⟩⟩, ⟨rfl, _⟩⟩ := hr
  simp only [List.cons_append, List.nil_append, List.mem_cons, List.not_mem_nil, or_false] at hu
  rcases hu with rfl | rfl | rfl <;> rfl
theorem pick_pst {w : World} {B : Nat} {A : Option Addr} {ps : List Pst} (h : Elems tPst w B A ps) {k : Nat} (hk : k < ps.length) :
    ∃ b off kd nm a, A = some ⟨b, off, none⟩ ∧ b < B ∧ Hid (ps[k]? = some ((kd, nm), a)) ∧ w.cell? ⟨b, off + k * 3, none⟩ = some (.int .i64 kd) ∧ w.cell? ⟨b, off + k * 3 + 1, none⟩ = some (.string nm) ∧ w.cell? ⟨b, off + k * 3 + 2, none⟩ = some (.int .i64 a) ∧ fits kd ∧ nm.size ≤ maxLen ∧ fits a := by
  obtain ⟨b, off, ⟨⟨kd, nm⟩, a⟩, cs, hA, hb, _, hx, _, ⟨c1, c2, rfl, ⟨c3, c4, rfl, ⟨rfl, h1⟩, ⟨rfl, h2⟩⟩, ⟨rfl, h3⟩⟩, hc⟩ := h.pick hk
  exact ⟨b, off, kd, nm, a, hA, hb, hx, hc 0 _ rfl, hc 1 _ rfl, hc 2 _ rfl, h1, h2, h3⟩

/-- A booking that is being made: its block, its own postings. -/
def BkIs (w : World) (bb base : Nat) (qs : List Pst) (v : Value) : Prop := Bk w bb #[.int .i64 0, v] 69 ∧ OwnL tPst 55 w base 0 v qs
/-- How post and pay leave it. -/
def Posted (w : World) (bb base : Nat) (v : Value) (qs : List Pst) (e : Ending) (w' : World) : Prop :=
  e = .returned (.tuple #[]) ∧ ∃ v', BkIs w' bb base qs v' ∧ Only (fun g => g = bb ∨ v.ownBlock = some g) w w' ∧ (∀ g, v'.ownBlock = some g → v.ownBlock = some g ∨ w.heap.size ≤ g)

set_option maxRecDepth 100000 in
set_option maxHeartbeats 4000000 in
theorem post_any (bb base : Nat) (v : Value) (qs : List Pst) (A : Option Addr) (ps : List Pst) (cap n : Nat) (w : World) (B : Nat) (h : BkIs w bb base qs v) (hbb : bb < base) (hbase : base ≤ w.heap.size) (hp : Elems tPst w B A ps) (hB : B ≤ w.heap.size) (hn : ps.length = n) (n' : Nat) (hl : n + qs.length ≤ n') (hn' : n' ≤ 100000)
    (hA : ∀ b, A.map (·.block) = some b → b ≠ bb ∧ v.ownBlock ≠ some b) :
    Calls Try.prog 31 #[.pointer (some ⟨bb, 0, none⟩), .slice A n cap] w (Posted w bb base v (qs ++ postL ps)) := by
  subst hn
  have HH := Lib.hid h
  have HP := Lib.hid hp
  have HA := Lib.hid hA
  clear h hp hA
  go_enter Try.func31, Try.ntmps31
  go_wp2_with fail
  go_loopw [8] (fun i wr => ∃ (k : Nat) (v' : Value), k ≤ ps.length ∧ i = .int .i64 k ∧ BkIs wr bb base (qs ++ postL (ps.take k)) v' ∧ Only (fun g => g = bb ∨ v.ownBlock = some g) w wr ∧ (∀ g, v'.ownBlock = some g → v.ownBlock = some g ∨ w.heap.size ≤ g)) (fun i _ => ps.length - (intOf i).toNat)
  case atStart => exact ⟨0, v, by omega, rfl, by simpa [postL] using HH.out, Only.refl _ _, fun g hg => .inl hg⟩
  case round =>
    obtain ⟨k, v', hk, rfl, hbk, ho, hv⟩ := hrel
    have hE := HP.out.only flat_pst ho hB (fun g off hg h => by
      have := HA.out g (by rw [hg]; rfl)
      rcases h with h | h
      · exact this.1 h
      · exact this.2 h)
    obtain ⟨A7, c7, rfl, hc7, hm7⟩ := hbk.2.form
    have hm7' : c7 ≤ 9223372036854775807 := by unfold maxLen at hm7; omega
    have hsz := ho.size
    have c0 := hbk.1.cell
    have f0 := hbk.1.free
    have l0 := hbk.1.lt
    have HB := Lib.hid hbk
    have HO := Lib.hid ho
    have HV := Lib.hid hv
    have hql : (qs ++ postL (ps.take k)).length ≤ n' := by
      rw [List.length_append]
      unfold postL
      have h1 := List.length_filter_le nzP (ps.take k)
      rw [List.length_take] at h1
      omega
    clear hbk ho hv hm7
    by_cases hlt : k < ps.length
    · obtain ⟨b, off, kd, nm, a, rfl, hb, Hk, d0, d1, d2, f1, f2, f3⟩ := pick_pst hE hlt
      have bw : b < wr.heap.size := by omega
      have hkl : (k : Int) < (ps.length : Int) := by omega
      have Hst := Lib.hid (postL_take Hk.out)
      clear hE
      by_cases ha : a = 0
      · have Hn : Hid (postL (ps.take (k + 1)) = postL (ps.take k)) := Lib.hid (by rw [Hst.out, if_pos ha, List.append_nil])
        subst ha
        go_wp2_with fail
        go_roundw
        case rel => exact ⟨k + 1, _, by omega, by go_num, by rw [Hn.out]; exact ⟨HB.out.1.alloc _, HB.out.2.below (below_self _ _) (by omega)⟩, HO.out.alloc _, HV.out⟩
        case measure => simp [intOf]; omega
      · have Hn : Hid (postL (ps.take (k + 1)) = postL (ps.take k) ++ [((kd, nm), a)]) := Lib.hid (by rw [Hst.out, if_neg ha])
        have Hrd : Hid (∀ X : World, tPst.rd X 0 [.int .i64 kd, .string nm, .int .i64 a] ((kd, nm), a)) := Lib.hid fun X => ⟨[.int .i64 kd, .string nm], [.int .i64 a], rfl, ⟨[.int .i64 kd], [.string nm], rfl, ⟨rfl, f1⟩, ⟨rfl, f2⟩⟩, ⟨rfl, f3⟩⟩
        go_upto_region 4 with (fail)
        refine forget (fun Y => Bk Y wr.heap.size #[.int .i64 kd, .string nm, .int .i64 a] 55 ∧ BkIs Y bb base (qs ++ postL (ps.take k)) (.slice A7 (qs ++ postL (ps.take k)).length c7) ∧ Only (fun g => g = bb ∨ v.ownBlock = some g) w Y ∧ Y.heap.size = wr.heap.size + 1) ⟨Bk.new _ _ _, ⟨HB.out.1.alloc _, HB.out.2.below (below_self _ _) (by omega)⟩, HO.out.alloc _, by simp⟩ ?_
        have hol0 := HB.out.2.lt
        clear d0 d1 d2 f1 f2 f3 c0 f0 l0 HB HO bw hb
        obtain ⟨pb, hpb⟩ : ∃ n, wr.heap.size = n := ⟨_, rfl⟩
        rw [hpb]
        obtain ⟨q2, hq2⟩ : ∃ q, qs ++ postL (ps.take k) = q := ⟨_, rfl⟩
        have Hq2 := Lib.hid hq2
        rw [hq2] at hql HV hol0 hc7 ⊢
        clear hq2
        rintro Y ⟨bp, hbk, ho, hYs⟩
        obtain ⟨ob, hob⟩ : ∃ o, (Value.slice A7 q2.length c7).ownBlock = o := ⟨_, rfl⟩
        have hol := hbk.2.lt
        rw [hob] at hol
        have nb : ¬ ob = some bb := fun e => by have := hol bb e; omega
        have np : ¬ ob = some pb := fun e => by
          have := hol0 pb (hob.trans e)
          omega
        have cp := bp.cell
        have lp := bp.lt
        have cb := hbk.1.cell
        have lb := hbk.1.lt
        have xb : ∀ u i, (extN ob Y u).cell? ⟨bb, i, none⟩ = (#[.int .i64 0, .slice A7 q2.length c7] : Array Value)[i]? := fun u i => (extN_cell bb i lb nb).trans (cb i)
        have xp : ∀ u i, (extN ob Y u).cell? ⟨pb, i, none⟩ = (#[.int .i64 kd, .string nm, .int .i64 a] : Array Value)[i]? := fun u i => (extN_cell pb i lp np).trans (cp i)
        have HBk := Lib.hid hbk
        have HOY := Lib.hid ho
        have hS0 : Only (fun g => ob = some g) Y Y.drew := (Only.refl _ _).drew
        have HS0 := Lib.hid hS0
        have Hob := Lib.hid hob
        clear hS0 bp hbk ho hol0 hob hYs
        refine region_planl (S := fun w' => ∃ u, w' = extN ob Y u) [([0, 1, 2, 3, 4, 5, 6], [7, 8]), ([9, 10, 11], [])] 12 (by kernel_rfl) (by kernel_rfl) (mem_extN HS0.out) ?_
        refine plan_take (fun K9 h9 => ?_)
        simp only [List.map_cons, List.map_nil, pickO, List.getD_cons_zero, List.getD_cons_succ]
        repeat (go_big_quiet_step (fail))
        refine wpQuiet_nil (h9 _ ?_)
        clear h9 K9
        refine plan_run (fun K9 h9 => ?_)
        simp only [pickO, List.getD_cons_zero, List.getD_cons_succ]
        refine list_lit1w (by rfl) _ 55 _ (by rfl) #[.int .i64 kd, .string nm, .int .i64 a] (by rfl) Try.underlying32 (by kernel_rfl) (by simp) (by simp) (by kernel_rfl) ?_
        show K9 _ _
        go_simp
        refine h9 _ _ (mem_extN (HS0.out.alloc _)) ?_
        clear h9 K9
        refine plan_run (fun K9 h9 => ?_)
        simp only [pickO, List.getD_cons_zero, List.getD_cons_succ]
        refine list_appendL (T := tPst) (base := base) (B := 0) (qs := q2) (v := .slice A7 q2.length c7) rfl _ _ _ rfl 32 Try.underlying32 (by kernel_rfl) (by decide) one_pst rfl (HBk.out.2.below ((Below.refl _ Y).drew.alloc (Nat.le_refl _) _) (by omega)) (some ⟨Y.heap.size, 0, none⟩) 1 1 [_] [(#[.int .i64 kd, .string nm, .int .i64 a] : Array Value).toList] rfl rfl rfl (fun i h1 h2 => by obtain rfl : i = 0 := (by simp at h1; omega); exact Hrd.out _) (by have := lies_bk ((Bk.new Y #[.int .i64 kd, .string nm, .int .i64 a] 55).drew) 1; simpa using this) (by unfold maxLen; omega) (by omega) (by simp; omega) (by omega) ?_
        intro A8 c8 w8 hown8 hbel8 hg8 hd8
        show K9 _ _
        go_simp
        have hS8 : Only (fun g => ob = some g) Y w8 := (HS0.out.alloc _).grown hg8 (fun g e => .inl (Hob.out.symm.trans e))
        have hO8 : Only (fun g => g = bb ∨ v.ownBlock = some g) w w8 := ((HOY.out.drew).alloc _).grown hg8 (fun g e => (HV.out g e).imp .inr id)
        have hd9 : ∀ g, (Value.slice A8 (q2.length + 1) c8).ownBlock = some g → v.ownBlock = some g ∨ w.heap.size ≤ g := fun g hg => by
          rw [own_map] at hg
          rcases hd8 with h | h
          · exact HV.out g (h.symm.trans hg)
          · right
            rw [hg] at h
            simp at h
            omega
        have H8 := Lib.hid (And.intro hown8 (And.intro hS8 (And.intro hO8 hd9)))
        refine h9 _ _ (mem_extN hS8) ?_
        clear h9 K9 hown8 hbel8 hg8 hd8 hS8 hO8 hd9
        refine plan_next ?_
        refine plan_take (fun K9 h9 => ?_)
        simp only [List.map_cons, List.map_nil, pickO, List.getD_cons_zero, List.getD_cons_succ]
        repeat (go_big_quiet_step (fail))
        refine wpQuiet_nil (h9 _ ?_)
        clear h9 K9
        refine plan_next (plan_end ?_)
        simp only [pickO, List.getD_cons_zero, List.getD_cons_succ]
        have bq8 := HBk.out.1.only H8.out.2.1 nb
        have cq8 := bq8.cell
        have fq8 := bq8.free 1
        have lq8 := bq8.lt
        have HQ8 := Lib.hid bq8
        clear bq8
        go_wp2_with fail
        go_roundw
        case rel => exact ⟨k + 1, _, by omega, by go_num, by rw [Hn.out, ← List.append_assoc, Hq2.out]; exact ⟨HQ8.out.set_ 1 _, H8.out.1.only ((Only.refl (fun b => b = bb) w8).set_ (p := ⟨bb, 1, none⟩) (.inl rfl) _) (fun g hg => by omega) (by omega) (fun g hg => by have := (H8.out.1.lt g hg).1; omega)⟩, H8.out.2.2.1.set_ (p := ⟨bb, 1, none⟩) (.inl (.inl rfl)) _, H8.out.2.2.2⟩
        case measure => simp [intOf]; omega
    · obtain rfl : k = ps.length := by omega
      rw [List.take_length] at HB HV
      clear hE
      go_wp2_with fail
      go_end0
      exact ⟨rfl, _, HB.out, HO.out, HV.out⟩
theorem payL_len (ms : List Mn) (s : Int) (k : Nat) : (payL (ms.take k) s).length ≤ k := by
  unfold payL postL
  refine Nat.le_trans (List.length_filter_le _ _) ?_
  simp
  omega
theorem Only.trans2 {S S' : Nat → Prop} {a w w' : World} (h : Only S a w) (k : Only S' w w') (hs : ∀ g, S' g → S g ∨ a.heap.size ≤ g) : Only S a w' :=
  ⟨k.os.trans h.os, k.tape.trans h.tape, k.output.trans h.output, Nat.le_trans h.size k.size, fun g hg hn => (k.block g (Nat.lt_of_lt_of_le hg h.size) (fun h' => by
    rcases hs g h' with h1 | h1
    · exact hn h1
    · omega)).trans (h.block g hg hn)⟩
theorem calls_forget {P : Program} {f : Nat} {args : Array Value} {w : World} {Q : Ending → World → Prop} {F : World → Prop} (h : F w) (k : ∀ X, F X → Calls P f args X Q) : Calls P f args w Q := k w h
theorem mul_sign {s a : Int} (hs : s = 1 ∨ s = -1) (ha : 0 ≤ a ∧ a ≤ 1000000000) : -1000000000 ≤ s * a ∧ s * a ≤ 1000000000 := by rcases hs with rfl | rfl <;> omega

set_option maxRecDepth 100000 in
set_option maxHeartbeats 4000000 in
theorem pay_any (bb base : Nat) (v : Value) (qs : List Pst) (A : Option Addr) (ms : List Mn) (cap n : Nat) (s : Int) (w : World) (B : Nat) (h : BkIs w bb base qs v) (hbb : bb < base) (hbase : base ≤ w.heap.size) (hp : Elems tMean w B A ms) (hB : B ≤ bb) (hn : ms.length = n) (hl : n + qs.length ≤ 1000)
    (hm : ∀ m ∈ ms, 0 ≤ m.2 ∧ m.2 ≤ 1000000000) (hs : s = 1 ∨ s = -1) :
    Calls Try.prog 30 #[.pointer (some ⟨bb, 0, none⟩), .slice A n cap, .int .i64 s] w (Posted w bb base v (qs ++ payL ms s)) := by
  subst hn
  have HH := Lib.hid h
  have HP := Lib.hid hp
  have HM := Lib.hid hm
  have HS := Lib.hid hs
  have hs1 : -1 ≤ s ∧ s ≤ 1 := by omega
  obtain ⟨s1, s2⟩ := hs1
  clear h hp hm hs
  go_enter Try.func30, Try.ntmps30
  go_wp2_with fail
  go_loopw [10] (fun i wr => ∃ (k : Nat) (v' : Value), k ≤ ms.length ∧ i = .int .i64 k ∧ BkIs wr bb base (qs ++ payL (ms.take k) s) v' ∧ Only (fun g => g = bb ∨ v.ownBlock = some g) w wr ∧ (∀ g, v'.ownBlock = some g → v.ownBlock = some g ∨ w.heap.size ≤ g)) (fun i _ => ms.length - (intOf i).toNat)
  case atStart => exact ⟨0, v, by omega, rfl, by simpa [payL, postL] using HH.out, Only.refl _ _, fun g hg => .inl hg⟩
  case round =>
    obtain ⟨k, v', hk, rfl, hbk, ho, hv⟩ := hrel
    have hE := HP.out.keep (ho.to_below (B := B) (fun g h => by
      rcases h with h | h
      · omega
      · have := HH.out.2.lt g h; omega) (by omega)) (Nat.le_refl _)
    have hsz := ho.size
    have HB := Lib.hid hbk
    have HO := Lib.hid ho
    have HV := Lib.hid hv
    have hql := payL_len ms s k
    clear hbk ho hv
    by_cases hlt : k < ms.length
    · obtain ⟨b, off, nm, a, rfl, hb, Hk, d0, d1, f1, f2⟩ := pick_mean hE hlt
      have bw : b < wr.heap.size := by have := HH.out.1.lt; omega
      have hkl : (k : Int) < (ms.length : Int) := by omega
      obtain ⟨a1, a2⟩ := HM.out _ (List.mem_of_getElem? Hk.out)
      obtain ⟨p1, p2⟩ := mul_sign HS.out ⟨a1, a2⟩
      obtain ⟨x, hx⟩ : ∃ x, s * a = x := ⟨_, rfl⟩
      have hst := payL_take s Hk.out
      simp only at hst
      rw [hx] at p1 p2 hst
      have Hst := Lib.hid hst
      clear hst
      clear hE
      obtain ⟨q2, hq2⟩ : ∃ q, qs ++ payL (ms.take k) s = q := ⟨_, rfl⟩
      have hq2l : q2.length ≤ qs.length + k := by rw [← hq2, List.length_append]; omega
      have Hq2 := Lib.hid hq2
      rw [hq2] at HB
      have hol := HB.out.2.lt
      have hlb := HB.out.1.lt
      clear hq2
      go_wp2_with (go_at_call 32; refine (of_any _ _ _ _).mono ?_; rintro e w' ⟨rfl, hb⟩; (first | (obtain ⟨u, rfl⟩ := ext_more hb; clear hb) | (obtain ⟨u, rfl⟩ := ext_more_alloc hb; clear hb) | (obtain ⟨u, rfl⟩ := ext_of hb; clear hb)))
      clear d0 d1 hx
      refine calls_forget (F := fun Y => BkIs Y bb base q2 v' ∧ Elems tPst Y Y.heap.size (some ⟨(ext (wr.alloc (.cells #[.string nm, .int .i64 a] 45)) u).heap.size, 0, none⟩) [((5, nm), x)] ∧ Below wr.heap.size wr Y ∧ wr.heap.size < (ext (wr.alloc (.cells #[.string nm, .int .i64 a] 45)) u).heap.size) ⟨?_, ?_, ?_, ?_⟩ ?_
      · have hw : Below wr.heap.size wr (((ext (wr.alloc (.cells #[.string nm, .int .i64 a] 45)) u).alloc (.cells #[.int .i64 5, .string nm, .int .i64 x] 55))) := by (repeat (first | with_reducible exact Below.refl _ _ | with_reducible assumption | with_reducible refine Below.alloc0 ?_ _ | with_reducible refine Below.ext0 ?_ _ | with_reducible refine Below.drew ?_ | with_reducible refine below_drewN ?_ _ | (with_reducible refine Below.setCell (hp := ?hp) ?_ _; case hp => (first | (simp; done) | (simp; omega)))))
        exact ⟨HB.out.1.below hw, HB.out.2.below hw (by omega)⟩
      · exact Elems.of_block (t := 55) [[.int .i64 5, .string nm, .int .i64 x]] (Bk.new _ _ _) (by simp) rfl (fun i hi => by obtain rfl : i = 0 := (by simp at hi; omega); exact ⟨[.int .i64 5, .string nm], [.int .i64 x], rfl, ⟨[.int .i64 5], [.string nm], rfl, ⟨rfl, by show _ ≤ (5:Int) ∧ (5:Int) ≤ _; omega⟩, ⟨rfl, f1⟩⟩, ⟨rfl, by show _ ≤ x ∧ x ≤ _; omega⟩⟩) rfl
      · (repeat (first | with_reducible exact Below.refl _ _ | with_reducible assumption | with_reducible refine Below.alloc0 ?_ _ | with_reducible refine Below.ext0 ?_ _ | with_reducible refine Below.drew ?_ | with_reducible refine below_drewN ?_ _ | (with_reducible refine Below.setCell (hp := ?hp) ?_ _; case hp => (first | (simp; done) | (simp; omega)))))
      · have := size_ext (wr.alloc (.cells #[.string nm, .int .i64 a] 45)) u
        simp at this
        omega
      generalize (ext (wr.alloc (.cells #[.string nm, .int .i64 a] 45)) u).heap.size = gb
      rintro Y ⟨y1, y2, y3, y4⟩
      have y5 := y3.size
      refine (post_any bb base v' q2 (some ⟨gb, 0, none⟩) [((5, nm), x)] 1 1 Y Y.heap.size y1 hbb (by omega) y2 (Nat.le_refl _) rfl 1000 (by omega) (by omega) (fun b hb => by
        simp at hb
        subst hb
        exact ⟨by omega, fun h => by have := hol gb h; omega⟩)).mono ?_
      rintro e w2 ⟨rfl, v2, z1, z2, z3⟩
      go_wp2_with fail
      go_roundw
      case rel => exact ⟨k + 1, v2, by omega, by go_num, by rw [Hst.out, ← List.append_assoc, Hq2.out]; exact z1, (HO.out.trans (Only.of_below y3)).trans2 z2 (fun g hg => hg.elim (fun h => .inl (.inl h)) (fun h => (HV.out g h).imp .inr id)), fun g hg => (z3 g hg).elim (fun h => HV.out g h) (fun h => .inr (by omega))⟩
      case measure => simp [intOf]; omega
    · obtain rfl : k = ms.length := by omega
      rw [List.take_length] at HB
      clear hE
      go_wp2_with fail
      go_end0
      exact ⟨rfl, _, HB.out, HO.out, HV.out⟩
end Go.Proofs.Ytggmihnhdojepaa
