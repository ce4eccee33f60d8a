/- Layer 12 (resolve): the rule of an item, its zones. -/
import Derived.Test.YtecjhniomjmocaaResI
import Derived.Test.YtecjhniomjmocaaResQ
import Derived.Test.YtecjhniomjmocaaExtN
namespace Go.Proofs.Ytecjhniomjmocaa
open Go.RowKit Go.ChangeAt
set_option linter.unusedVariables false
set_option linter.unusedSimpArgs false
attribute [local go_sem] ext_cell ext_frozen lt_ext ext_drew lt_extN

def rlC (x : It) (v : Value) : Array Value := #[.int .i64 x.1, .string x.2.1, v, .int .i64 x.2.2.2.1, .int .i64 x.2.2.2.2.1.1, .int .i64 x.2.2.2.2.1.2, .int .i64 x.2.2.2.2.2.1.1, .int .i64 x.2.2.2.2.2.1.2]
/-- How the rule of an item ends. -/
def RuleR (w : World) (L : Nm) (tw : Bool) (x : It) (e : Ending) (w' : World) : Prop :=
  Below w.heap.size w w' ∧ if (faultI L tw x).1 = 0 then
    ∃ A c, e = .returned (.tuple #[.agg (rlC x (.slice A (zonesI L x).length c)), .agg #[.int .i64 0, .int .i64 0]]) ∧ OwnL tZn 42 w' 0 0 (.slice A (zonesI L x).length c) (zonesI L x)
  else e = .returned (.tuple #[.agg zeroC, .agg #[.int .i64 (faultI L tw x).1, .int .i64 (faultI L tw x).2]])

theorem zns_flat {w : World} {B : Nat} {A : Option Addr} {zs : List Zn} (h : Elems tZn w B A zs) :
    ∃ css : List (List Value), css.length = zs.length ∧ (∀ (X : World) (b i : Nat) (h1 : i < zs.length) (h2 : i < css.length), tZn.rd X b css[i] zs[i]) ∧ Lies w A zs.length css.flatten := by
  obtain ⟨css, f1, f2, _, _, f5⟩ := h.flat
  refine ⟨css, f1, fun X b i h1 h2 => ?_, lies_of f5 (Below.refl _ _)⟩
  have h9 := f2 i h1 h2
  obtain ⟨e, hz, hf⟩ := zn_cells h9
  rw [e]
  exact zn_rd X b hz hf

theorem rule_bad {w w'' : World} {L : Nm} {x : It} {er ot : Int} {tw : Bool} (hf : faultI L tw x = (er, ot)) (hne : er ≠ 0) (hb : Below w.heap.size w w'') :
    RuleR w L tw x (.returned (.tuple #[.agg zeroC, .agg #[.int .i64 er, .int .i64 ot]])) w'' := by
  refine ⟨hb, ?_⟩
  rw [if_neg (by rw [hf]; exact hne), hf]

theorem one_rl (x : It) (A : Option Addr) (n c : Nat) : (rlC x (.slice A n c)).all (·.oneCell') = true := by
  rw [Array.all_eq_true_iff_forall_mem]
  intro u hu
  simp only [rlC, List.mem_toArray, List.mem_cons, List.not_mem_nil, or_false] at hu
  rcases hu with rfl | rfl | rfl | rfl | rfl | rfl | rfl | rfl <;> rfl
theorem rule_good {w w'' : World} {L : Nm} {x : It} {A : Option Addr} {zs : List Zn} {c : Nat} {tw : Bool} (hf : faultI L tw x = (0, 0)) (hz : zonesI L x = zs) (hb : Below w.heap.size w w'') (h3 : OwnL tZn 42 w'' 0 0 (.slice A zs.length c) zs) :
    RuleR w L tw x (.returned (.tuple #[.agg (rlC x (.slice A zs.length c)), .agg #[.int .i64 0, .int .i64 0]])) w'' := by
  subst hz
  refine ⟨hb, ?_⟩
  rw [if_pos (by rw [hf])]
  exact ⟨A, c, rfl, h3⟩
theorem own_zero {w : World} {base : Nat} {e : TypeId} {size : Nat} {v : Value} {n : Nat} {xs : List Value} (h : w.ownsRow base e size v n xs) : w.ownsRow 0 e size v n xs := by
  obtain ⟨h1, h2 | ⟨g, cap, cur, h2, _, h3⟩⟩ := h
  · exact ⟨h1, .inl h2⟩
  · exact ⟨h1, .inr ⟨g, cap, cur, h2, Nat.zero_le _, h3⟩⟩
theorem own_zones {w w'' : World} {base B : Nat} {v : Value} {zs : List Zn} {S : Nat → Prop} (h : OwnL tZn 42 w base B v zs) (ho : Only S w w'') (hn : ∀ g, v.ownBlock = some g → ¬ S g) : OwnL tZn 42 w'' 0 0 v zs := by
  obtain ⟨css, k1, k2, k3⟩ := h
  exact ⟨css, k1, fun i a1 a2 => by
    obtain ⟨e, hz, hf⟩ := zn_cells (k2 i a1 a2)
    rw [e]
    exact zn_rd _ _ hz hf, own_zero (own_only k3 ho hn)⟩
theorem own_lit {w : World} {g : Nat} {z : Zn} (h : Bk w g (znV z) 42) (hz : GoodZ z) : OwnL tZn 42 w 0 0 (.slice (some ⟨g, 0, none⟩) 1 1) [z] := by
  refine ⟨[pairsV z], rfl, fun i a1 a2 => ?_, ?_, .inr ⟨g, 1, znV z, rfl, Nat.zero_le _, h, Nat.le_refl _, by simp [maxLen], ?_, ?_⟩⟩
  · obtain rfl : i = 0 := by simpa using a1
    exact zn_rd w 0 hz.1 hz.2
  · simp [pairsV_len, hz.1]; rfl
  · rw [znV_size hz.1]; rfl
  · have h9 : tZn.n = 20 := rfl
    have h8 : (pairsV z).length = 20 := by rw [pairsV_len, hz.1]
    simp [znV, h9, h8, List.take_of_length_le]
/-- A panic, of which the frame's other slots do not matter. -/
def PanQ (D : List Deferred) (p6 p7 : Value) (ch : List PanicEntry) (F : World → Prop) : Exit → Act → World → Prop
  | .panic c, a, w => a.defers = D ∧ a.tmps[6]?.getD undef = p6 ∧ a.tmps[7]?.getD undef = p7 ∧ c = ch ∧ F w
  | _, _, _ => False
theorem panQ_put {D : List Deferred} {p6 p7 : Value} {ch c : List PanicEntry} {F : World → Prop} {a : Act} {d : Nat} {v : Value} {w : World} (h6 : d ≠ 6) (h7 : d ≠ 7) (h : PanQ D p6 p7 ch F (.panic c) (a.put (some d) v) w) : PanQ D p6 p7 ch F (.panic c) a w := by
  obtain ⟨h1, h2, h3, h4, h5⟩ := h
  refine ⟨h1, ?_, ?_, h4, h5⟩
  · rw [← h2]; simp [Act.put, Array.getElem?_setIfInBounds, h6]
  · rw [← h3]; simp [Act.put, Array.getElem?_setIfInBounds, h7]

set_option maxRecDepth 100000 in
set_option maxHeartbeats 4000000 in
theorem rule_zones (sb : Nat) (L : Nm) (kd : Int) (nm : ByteArray) (AW : Option Addr) (cw : Nat) (n rn rd sn sd att : Int) (w : World) (ws : List (List Ts)) (B : Nat) (h : Elems (tSlice tTs) w B AW ws) (hB : B ≤ w.heap.size) (hS : ScopeAt w sb L) (h1 : L.1.length ≤ 1000000) (h2 : L.2.length ≤ 1000000) (hl : ws.length ≤ 12) (hl8 : ∀ l ∈ ws, l.length ≤ 8)
    (h0 : ¬ kd < 1) (h7 : ¬ 7 < kd) (f1 : fits kd) (f2 : fits n) (f3 : fits rn) (f4 : fits rd) (f5 : fits sn) (f6 : fits sd) (hq : inRangeP (kd, nm, ws, n, (rn, rd), (sn, sd), att) = true) :
    Calls Try.prog 29 #[.pointer (some ⟨sb, 0, none⟩), .agg #[.int .i64 kd, .string nm, .slice AW ws.length cw, .int .i64 n, .int .i64 rn, .int .i64 rd, .int .i64 sn, .int .i64 sd, .int .i64 att], .bool false] w (RuleR w L false (kd, nm, ws, n, (rn, rd), (sn, sd), att)) := by
  have HH := Lib.hid (And.intro h (And.intro hS hl8))
  clear h hS hl8
  have hmf : ∀ (fn : Fn) (first cap : Array Value) (w : World), (Instr.makeFunc fn first cap).run Try.prog w = .ok (.func fn first cap) w := fun _ _ _ _ => rfl
  go_enter_defers Try.func29, Try.ntmps29
  go_upto_region 9 with (go_at_call 36; refine (inRange_any kd nm AW ws.length cw n rn rd sn sd att ws _ f1 f2 f3 f4 f5 f6).mono ?_; rw [hq]; rintro e w9 ⟨rfl, hb⟩; obtain ⟨u, rfl⟩ := ext_of hb; clear hb)
  have hsz := size_ext (((w.alloc (.cells #[.int .i64 kd, .string nm, .slice AW ws.length cw, .int .i64 n, .int .i64 rn, .int .i64 rd, .int .i64 sn, .int .i64 sd, .int .i64 att] 57)).alloc (.cells zeroC 54)).alloc (.cells #[.int .i64 0, .int .i64 0] 89)) u
  simp at hsz
  refine forget (fun X => Below w.heap.size w X ∧ Bk X w.heap.size #[.int .i64 kd, .string nm, .slice AW ws.length cw, .int .i64 n, .int .i64 rn, .int .i64 rd, .int .i64 sn, .int .i64 sd, .int .i64 att] 57 ∧ Bk X (w.heap.size + 1) (rlC (kd, nm, ws, n, (rn, rd), (sn, sd), att) (.slice none 0 0)) 54 ∧ Bk X (w.heap.size + 1 + 1) #[.int .i64 0, .int .i64 0] 89) ⟨by (repeat (first | with_reducible exact Below.refl _ _ | with_reducible assumption | with_reducible refine Below.alloc0 ?_ _ | with_reducible refine Below.ext0 ?_ _ | with_reducible refine Below.drew ?_ | with_reducible refine below_drewN ?_ _ | (with_reducible refine Below.setCell (hp := ?hp) ?_ _; case hp => (first | (simp; done) | (simp; omega))))), ?_, ?_, ?_⟩ ?_
  · iterate 8 refine Bk.far ?_ (by simp) _
    exact (((bk_new_at w _ _ _ rfl).alloc _).alloc _).ext _
  · have h := ((bk_new_at (w.alloc (.cells #[.int .i64 kd, .string nm, .slice AW ws.length cw, .int .i64 n, .int .i64 rn, .int .i64 rd, .int .i64 sn, .int .i64 sd, .int .i64 att] 57)) (w.heap.size + 1) zeroC 54 (by simp)).alloc (.cells #[.int .i64 0, .int .i64 0] 89)).ext u
    have h := (((h.set_ 0 (.int .i64 kd)).set_ 1 (.string nm)).set_ 2 (.slice none 0 0)).set_ 3 (.int .i64 n)
    have h := (((h.set_ 4 (.int .i64 rn)).set_ 5 (.int .i64 rd)).set_ 6 (.int .i64 sn)).set_ 7 (.int .i64 sd)
    simp only [zeroC, List.setIfInBounds_toArray, List.set_cons_zero, List.set_cons_succ] at h
    exact h
  · iterate 8 refine Bk.far ?_ (by simp) _
    exact (bk_new_at _ (w.heap.size + 1 + 1) _ _ (by simp)).ext _
  have hrb : w.heap.size < w.heap.size + 1 := by omega
  clear hsz
  generalize w.heap.size + 1 = rb at *
  rintro W ⟨hw, bx, br, bf⟩
  have cx := bx.cell
  have lx := bx.lt
  have HW := Lib.hid (And.intro hw (And.intro bx (And.intro br bf)))
  clear hw bx br bf
  go_wp2_with fail
  clear cx lx
  go_loopw [9, 46] (fun _ i wr => ∃ (k : Nat) (v : Value), k ≤ ws.length ∧ i = .int .i64 k ∧ badW L (ws.take k) = none ∧ Below w.heap.size w wr ∧ Bk wr w.heap.size #[.int .i64 kd, .string nm, .slice AW ws.length cw, .int .i64 n, .int .i64 rn, .int .i64 rd, .int .i64 sn, .int .i64 sd, .int .i64 att] 57 ∧ Bk wr rb (rlC (kd, nm, ws, n, (rn, rd), (sn, sd), att) v) 54 ∧ Bk wr (rb + 1) #[.int .i64 0, .int .i64 0] 89 ∧ OwnL tZn 42 wr (rb + 2) 0 v (zonesW L (ws.take k))) (fun _ i _ => ws.length - (intOf i).toNat)
  case atStart => exact ⟨0, _, by omega, rfl, rfl, HW.out.1, HW.out.2.1, HW.out.2.2.1, HW.out.2.2.2, OwnL.nil⟩
  case round =>
    obtain ⟨k, v, hk, rfl, hbad, hw, bx, br, bf, hown⟩ := hrel
    obtain ⟨A7, c7, rfl, hc7, hm7⟩ := hown.form
    have hm7' : c7 ≤ 9223372036854775807 := by unfold maxLen at hm7; omega
    have hwr := hw.size
    have hl8 := HH.out.2.2
    by_cases hlt : k < ws.length
    · obtain ⟨b, off, A1, l, c1, rfl, hb, Hk, g0, gl, HE⟩ := pick_and (HH.out.1.keep (hw.mono hB) (Nat.le_refl _)) hlt
      have hkl : (k : Int) < (ws.length : Int) := by omega
      have bw : b < wr.heap.size := by omega
      have h8 : l.length ≤ 8 := hl8 l (List.mem_of_getElem? Hk.out)
      have hbt := badW_take hbad Hk.out
      have hzt := zonesW_take (L := L) Hk.out
      have HZ := Lib.hid (fun (X : World) (hX : Below wr.heap.size wr X) => zones_any sb L A1 l c1 X B (HE.out.keep (hX.mono (show B ≤ wr.heap.size by omega)) (Nat.le_refl _)) (by have := hX.size; omega) ((HH.out.2.1.below hw).below hX) h1 h2 h8)
      clear hl8
      cases hx : badT L l with
      | some e =>
        obtain ⟨er, ot⟩ := e
        rw [hx] at hbt
        have hst := badW_stop hbt
        have hne := badW_ne hst
        have hf : faultI L false (kd, nm, ws, n, (rn, rd), (sn, sd), att) = (er, ot) := by
          unfold faultI
          rw [if_neg (by simp), if_neg (by simp; omega), if_neg (by rw [hq]; simp)]
          simp only [hst]
        have HX := Lib.hid (And.intro hf (And.intro hne (And.intro hw (And.intro bx (And.intro br (And.intro bf hx))))))
        have cr2 : wr.cell? ⟨rb, 2, none⟩ = some (.slice A7 (zonesW L (ws.take k)).length c7) := br.cell 2
        have lr := br.lt
        clear hf hst hne hbt hzt hw bx br bf hx hown hbad HE
        as_aux_lemma =>
        go_upto_region 12 with (fail)
        refine Code.wp_mono (Q := PanQ [{ target := .fn (.func 35) #[.pointer (some ⟨rb, 0, none⟩), .pointer (some ⟨rb + 1, 0, none⟩)], args := #[] }] (.pointer (some ⟨rb, 0, none⟩)) (.pointer (some ⟨rb + 1, 0, none⟩)) [{ v := .iface 89 (.agg #[.int .i64 er, .int .i64 ot]), recovered := false }] (fun w' => Below wr.heap.size wr w')) (fun e a w' hp => ?_) ?_
        · cases e with
          | panic c =>
            obtain ⟨tm, df⟩ := a
            obtain ⟨rfl, h6, h7, rfl, hb2⟩ := hp
            refine leaves_cons (f := 35) (args := #[.pointer (some ⟨rb, 0, none⟩), .pointer (some ⟨rb + 1, 0, none⟩)]) (by simp) (by simp [go_sem]) ?_
            refine (catch_pan rb (rb + 1) er ot _ _ _ _ _ _ _ _ _ _ _ (HX.out.2.2.2.2.1.below hb2) (HX.out.2.2.2.2.2.1.below hb2)).mono ?_
            rintro e u' w'' ⟨rfl, rfl, b1, b2, ho⟩
            have c1 := b1.cell
            have c2 := b2.cell
            have l1 := b1.lt
            have l2 := b2.lt
            have hend := rule_bad HX.out.1 HX.out.2.1.1 ((HX.out.2.2.1.trans (hb2.mono (by omega))).trans (ho.to_below (B := w.heap.size) (fun g hg => by omega) (by have := hb2.size; omega)))
            have Hend := Lib.hid hend
            clear hend b1 b2 ho hb2
            simp [Leaves, settle, results, Try.results29, go_sem, c1, c2, l1, l2, zeroC, h6, h7]
            exact Hend.out
          | _ => exact hp.elim
        refine wp_region_any (by kernel_rfl) ?_
        change wpAny _ _ _ _ _ _ _ (World.drew _)
        refine wpAny_take (i := 0) (v := ?v0) (by exact rfl) (by kernel_rfl) (by kernel_rfl) (by kernel_rfl) ?q0 (Or.inl ⟨by rfl, fun w => ?y0⟩) ?_
        case y0 =>
          go_simp
          all_goals (with_reducible rfl)
        case q0 => exact fun c a w h => panQ_put (by decide) (by decide) h
        refine wpAny_take (i := 2) (v := ?v2) (by exact rfl) (by kernel_rfl) (by kernel_rfl) (by kernel_rfl) ?q2 (Or.inl ⟨by rfl, fun w => ?y2⟩) ?_
        case y2 =>
          go_simp
          all_goals (with_reducible rfl)
        case q2 => exact fun c a w h => panQ_put (by decide) (by decide) h
        refine wpAny_take (i := 3) (v := ?v3) (by exact rfl) (by kernel_rfl) (by kernel_rfl) (by kernel_rfl) ?q3 (Or.inl ⟨by rfl, fun w => ?y3⟩) ?_
        case y3 =>
          go_simp
          all_goals (with_reducible rfl)
        case q3 => exact fun c a w h => panQ_put (by decide) (by decide) h
        refine wpAny_ready (rs := [1, 4]) (by kernel_rfl) (by simp) ?_
        refine AllReady.cons rfl (fun K hK => ?_) (AllReady.cons rfl (fun K hK => ?_) AllReady.nil)
        · go_simp
          refine hK _ _ ?_
          clear hK K
          refine wpAny_ready (rs := [4]) (by kernel_rfl) (by simp) ?_
          refine AllReady.cons rfl (fun K hK => ?_) AllReady.nil
          go_simp
          refine (HZ.out _ ((Below.refl _ _).drew)).mono ?_
          rintro e w2 ⟨hb2, he⟩
          rw [HX.out.2.2.2.2.2.2] at he
          subst he
          exact ⟨rfl, rfl, rfl, rfl, (Below.refl _ _).drew.trans hb2⟩
        · go_simp
          refine (HZ.out _ ((Below.refl _ _).drew)).mono ?_
          rintro e w2 ⟨hb2, he⟩
          rw [HX.out.2.2.2.2.2.2] at he
          subst he
          exact ⟨rfl, rfl, rfl, rfl, (Below.refl _ _).drew.trans hb2⟩
      | none =>
        rw [hx] at hbt
        have hlen : (zonesP L l).length ≤ 256 := zonesP_len h8
        have hlenW : (zonesW L (ws.take k)).length ≤ 3072 := by
          have := zonesW_len (L := L) (ws := ws.take k) (fun x hx => HH.out.2.2 x (List.mem_of_mem_take hx))
          rw [List.length_take] at this
          omega
        have HZ2 := Lib.hid (fun (X : World) (hX : Below wr.heap.size wr X) => (HZ.out X hX).mono (R' := fun e w' => ∃ A c, e = .returned (.slice A (zonesP L l).length c) ∧ Below X.heap.size X w' ∧ (zonesP L l).length ≤ c ∧ c ≤ maxLen ∧ Elems tZn w' w'.heap.size A (zonesP L l)) (fun e w' h => by
          obtain ⟨g1, g2⟩ := h
          rw [hx] at g2
          obtain ⟨A, c, g2, g3, g4, g5⟩ := g2
          exact ⟨A, c, g2, g1, g3, g4, g5⟩))
        clear HZ
        obtain ⟨zp, hzp⟩ : ∃ z, zonesP L l = z := ⟨_, rfl⟩
        rw [hzp] at hlen hzt HZ2
        obtain ⟨qs, hqs⟩ : ∃ z, zonesW L (ws.take k) = z := ⟨_, rfl⟩
        rw [hqs] at hlenW hzt hown br hc7
        obtain ⟨ob, hob⟩ : ∃ o, (Value.slice A7 qs.length c7).ownBlock = o := ⟨_, rfl⟩
        have hol := hown.lt
        rw [hob] at hol
        have nr : ¬ ob = some rb := fun e => by have := hol rb e; omega
        have nf : ¬ ob = some (rb + 1) := fun e => by have := hol _ e; omega
        have nx : ¬ ob = some w.heap.size := fun e => by have := hol _ e; omega
        have cr2 : wr.cell? ⟨rb, 2, none⟩ = some (.slice A7 qs.length c7) := br.cell 2
        have lr := br.lt
        have xr : ∀ u, (extN ob wr u).cell? ⟨rb, 2, none⟩ = some (.slice A7 qs.length c7) := fun u => (extN_cell rb 2 lr nr).trans cr2
        have hzs : rb + 2 ≤ wr.heap.size := by have := bf.lt; omega
        have HX := Lib.hid (And.intro hw (And.intro bx (And.intro br (And.intro bf (And.intro hown (And.intro hbt (And.intro hzt hob)))))))
        have HS0 := Lib.hid (show Only (fun g => ob = some g) wr wr.drew from (Only.refl _ _).drew)
        clear hbt hzt hw bx br bf hx hown hbad HE hzp hqs hob
        go_upto_region 12 with (fail)
        refine region_planl (S := fun w' => ∃ u, w' = extN ob wr u) [([0, 1, 2, 3], [4, 5]), ([6], [])] 7 (by kernel_rfl) (by kernel_rfl) (mem_extN HS0.out) ?_
        refine plan_take (fun K9 h9 => ?_)
        simp only [List.map_cons, List.map_nil, pickO, List.getD_cons_zero, List.getD_cons_succ]
        repeat (go_big_quiet_step (fail))
        refine wpQuiet_nil (h9 _ ?_)
        clear h9 K9
        refine plan_run (fun K9 h9 => ?_)
        simp only [pickO, List.getD_cons_zero, List.getD_cons_succ]
        go_wp2_with (go_at_call 37; refine (HZ2.out _ ((Below.refl _ _).drew)).mono ?_; rintro e w2 ⟨A9, c9, rfl, g1, g2, g3, g4⟩; have H2 := Lib.hid (And.intro g1 (And.intro g2 (And.intro g3 g4))); clear g1 g2 g3 g4)
        have hS2 : Only (fun g => ob = some g) wr w2 := HS0.out.trans (Only.of_below H2.out.1)
        refine h9 _ _ (mem_extN hS2) ?_
        clear h9 K9
        have HS2 := Lib.hid hS2
        have hz2 := hS2.size
        obtain ⟨css, k1, k2, k3⟩ := zns_flat H2.out.2.2.2
        have HC := Lib.hid (And.intro k1 (And.intro k2 k3))
        clear k1 k2 k3 hS2
        refine plan_run (fun K9 h9 => ?_)
        simp only [pickO, List.getD_cons_zero, List.getD_cons_succ]
        refine list_appendL (T := tZn) (base := rb + 2) (B := 0) (qs := qs) (v := .slice A7 qs.length c7) rfl _ _ _ rfl 160 Try.underlying50 (by kernel_rfl) (by decide) one_zn rfl (HX.out.2.2.2.2.1.below ((Below.refl _ wr).drew.trans H2.out.1) (by omega)) A9 zp.length c9 zp css rfl rfl HC.out.1 (fun i a1 a2 => HC.out.2.1 _ _ i a1 a2) HC.out.2.2 (by unfold maxLen; omega) (by omega) (by omega) (by omega) ?_
        intro A8 c8 w8 hown8 hbel8 hg8 hd8
        show K9 _ _
        go_simp
        have hS8 : Only (fun g => ob = some g) wr w8 := HS2.out.grown hg8 (fun g e => .inl (HX.out.2.2.2.2.2.2.2.symm.trans e))
        have H8 := Lib.hid (And.intro hown8 hS8)
        refine h9 _ _ (mem_extN hS8) ?_
        clear h9 K9 hown8 hbel8 hg8 hd8 hS8
        refine plan_next ?_
        refine plan_take (fun K9 h9 => ?_)
        simp only [List.map_cons, List.map_nil, pickO, List.getD_cons_zero, List.getD_cons_succ]
        repeat (go_big_quiet_step (fail))
        refine wpQuiet_nil (h9 _ ?_)
        clear h9 K9
        refine plan_next (plan_end ?_)
        simp only [pickO, List.getD_cons_zero, List.getD_cons_succ]
        have br8 := HX.out.2.2.1.only H8.out.2 nr
        have cq8 : w8.cell? ⟨rb, 2, none⟩ = some (.slice A7 qs.length c7) := br8.cell 2
        have fq8 := br8.free 2
        have lq8 := br8.lt
        have HQ8 := Lib.hid br8
        clear br8
        go_wp2_with fail
        go_roundw
        case rel =>
          have hz8 := H8.out.2.size
          refine ⟨k + 1, .slice A8 (qs.length + zp.length) c8, by omega, by go_num, HX.out.2.2.2.2.2.1, ?_, (HX.out.2.1.only H8.out.2 nx).far (by simp; omega) _, ?_, (HX.out.2.2.2.1.only H8.out.2 nf).far (by simp) _, ?_⟩
          · exact ((HX.out.1.trans (H8.out.2.to_below (B := w.heap.size) (fun g hg => by have := hol g hg; omega) hwr)).setCell (by simp; omega) _)
          · have h9 := HQ8.out.set_ 2 (.slice A8 (qs.length + zp.length) c8)
            exact h9
          · rw [HX.out.2.2.2.2.2.2.1]
            exact H8.out.1.only ((Only.refl (fun b => b = rb) w8).set_ (p := ⟨rb, 2, none⟩) (.inl rfl) _) (fun g hg => by omega) (by omega) (fun g hg => by have := (H8.out.1.lt g hg).1; omega)
        case measure => simp [intOf]; omega
    · obtain rfl : k = ws.length := by omega
      rw [List.take_length] at hbad hown hc7 br
      have hlenW : (zonesW L ws).length ≤ 3072 := by
        have := zonesW_len (L := L) (ws := ws) HH.out.2.2
        omega
      have hfault : (faultI L false (kd, nm, ws, n, (rn, rd), (sn, sd), att)) = if 200 < (zonesI L (kd, nm, ws, n, (rn, rd), (sn, sd), att)).length then (3, -1) else (0, 0) := by
        unfold faultI
        rw [if_neg (by simp), if_neg (by simp; omega), if_neg (by rw [hq]; simp)]
        simp only [hbad]
      have lr := br.lt
      have lf := bf.lt
      have cx2 : wr.cell? ⟨w.heap.size, 2, none⟩ = some (.slice AW ws.length cw) := bx.cell 2
      have lx := bx.lt
      by_cases hnil : ws = []
      · have hzi : zonesI L (kd, nm, ws, n, (rn, rd), (sn, sd), att) = [limZ] := by unfold zonesI; rw [if_pos hnil]
        rw [hzi] at hfault
        have hf0 : (faultI L false (kd, nm, ws, n, (rn, rd), (sn, sd), att)) = (0, 0) := hfault
        have hz0 : ws.length = 0 := by rw [hnil]; rfl
        have fr := br.free 2
        have cr2 : wr.cell? ⟨rb, 2, none⟩ = some (.slice A7 (zonesW L ws).length c7) := br.cell 2
        have HX := Lib.hid (And.intro hw (And.intro bx (And.intro br (And.intro bf (And.intro hf0 hzi)))))
        clear hfault hw bx br bf hown hbad hzi hf0 hlenW hnil
        rw [hz0] at cx2
        simp only [hz0]
        as_aux_lemma =>
        go_upto_region 16 with (first
          | (go_at_call 14; refine (limits_any _).mono ?_; rintro e w1 ⟨rfl, hb⟩; obtain ⟨u, rfl⟩ := ext_of hb; clear hb)
          | (refine list_lit1 rfl _ 42 _ rfl (znV limZ) rfl Try.underlying50 (info_zn rfl) (by decide) (by decide) (zero_zn rfl) ?_))
        refine forget (fun X => Below w.heap.size w X ∧ Bk X rb (rlC (kd, nm, ws, n, (rn, rd), (sn, sd), att) (.slice (some ⟨(ext wr u).heap.size, 0, none⟩) 1 1)) 54 ∧ Bk X (rb + 1) #[.int .i64 0, .int .i64 0] 89 ∧ Bk X (ext wr u).heap.size (znV limZ) 42 ∧ rb + 1 < (ext wr u).heap.size ∧ (ext wr u).heap.size < X.heap.size) ⟨?_, ((HX.out.2.2.1.ext u).set_ 2 _).alloc _, ((HX.out.2.2.2.1.ext u).far (by simp) _).alloc _, bk_new_at _ _ _ _ (by simp), lt_ext lf, by simp⟩ ?_
        · exact ((HX.out.1.trans ((below_ext wr u).mono hwr)).setCell (by simp; omega) _).alloc (by have := size_ext wr u; simp; omega) _
        generalize (ext wr u).heap.size = g0 at *
        rintro Y ⟨hy1, hy2, hy3, hy4, hy5, hy6⟩
        have cy : Y.cell? ⟨rb, 2, none⟩ = some (.slice (some ⟨g0, 0, none⟩) 1 1) := hy2.cell 2
        have HY := Lib.hid (And.intro hy1 (And.intro hy2 (And.intro hy3 hy4)))
        clear hy1 hy2 hy3 hy4 cr2 fr cx2 lx
        go_upto_region 18 with (fail)
        clear HH hl h1 h2 hq cy
        go_wp2_with (first
          | (refine list_load_at (o := ⟨some 71, _, _, _, _, _⟩) rfl _ _ rfl rb 0 rfl (rlC (kd, nm, ws, n, (rn, rd), (sn, sd), att) (.slice (some ⟨g0, 0, none⟩) 1 1)) _ (fun j u h => by rw [Nat.zero_add, HY.out.2.1.cell]; exact h) Try.underlying54 rfl (by kernel_rfl) ?_)
          | (refine list_store_bk (o := ⟨none, .store 54 _ _, _, _, _, _⟩) rfl _ _ _ rfl rb (rlC (kd, nm, ws, n, (rn, rd), (sn, sd), att) (.slice (some ⟨g0, 0, none⟩) 1 1)) rfl rfl HY.out.2.1 (by kernel_rfl) rfl (one_rl _ _ _ _) ?_; intro X7 hb7 ho7; have H7 := Lib.hid (And.intro hb7 ho7); clear hb7 ho7)
          | (refine list_store_bk (o := ⟨none, .store 89 _ _, _, _, _, _⟩) rfl _ _ _ rfl (rb + 1) #[.int .i64 0, .int .i64 0] rfl rfl (HY.out.2.2.1.only H7.out.2 (by simp)) (by kernel_rfl) rfl (by kernel_rfl) ?_; intro X8 hb8 ho8; have H8 := Lib.hid (And.intro hb8 ho8); clear hb8 ho8))
        have b1 := H7.out.1.only H8.out.2 (show ¬ rb = rb + 1 by omega)
        refine leaves_cons (f := 35) (args := #[.pointer (some ⟨rb, 0, none⟩), .pointer (some ⟨rb + 1, 0, none⟩)]) (by simp) (by simp [go_sem]) ?_
        refine (catch_idle rb (rb + 1) X8).mono ?_
        rintro e u' w'' ⟨rfl, rfl, rfl⟩
        have s7 := H7.out.2.size
        have hoo : Only (fun g => g = rb ∨ g = rb + 1) _ w'' := (H7.out.2.mono (fun g h => Or.inl h)).trans (H8.out.2.mono (fun g h => Or.inr h))
        have hel := own_lit ((HY.out.2.2.2.only H7.out.2 (by omega)).only H8.out.2 (by omega)) limZ_good
        have Hend := Lib.hid (rule_good HX.out.2.2.2.2.1 HX.out.2.2.2.2.2 (HY.out.1.trans (hoo.to_below (B := w.heap.size) (fun g hg => by omega) (by omega))) hel)
        have c1 := b1.cell
        have c2 := H8.out.1.cell
        have l1 := b1.lt
        have l2 := H8.out.1.lt
        clear hoo hel b1
        simp [Leaves, settle, results, Try.results29, go_sem, c1, c2, l1, l2, rlC]
        exact Hend.out
      · have hzi : zonesI L (kd, nm, ws, n, (rn, rd), (sn, sd), att) = zonesW L ws := by unfold zonesI; rw [if_neg hnil]; rfl
        have hpos : 0 < ws.length := by cases ws with | nil => exact absurd rfl hnil | cons => simp
        have hn0 : ¬ (ws.length : Int) = 0 := by omega
        rw [hzi] at hfault
        have cr2 : wr.cell? ⟨rb, 2, none⟩ = some (.slice A7 (zonesW L ws).length c7) := br.cell 2
        by_cases h200 : 200 < (zonesW L ws).length
        · rw [if_pos h200] at hfault
          have HX := Lib.hid (And.intro hw (And.intro bx (And.intro br (And.intro bf hfault))))
          have h2' : 200 < ((zonesW L ws).length : Int) := by omega
          clear hfault hw bx br bf hown hbad hzi hnil hc7
          as_aux_lemma =>
          go_wp2_with fail
          refine leaves_cons (f := 35) (args := #[.pointer (some ⟨rb, 0, none⟩), .pointer (some ⟨rb + 1, 0, none⟩)]) (by simp) (by simp [go_sem]) ?_
          refine (catch_pan rb (rb + 1) 3 (-1) _ _ _ _ _ _ _ _ _ _ _ HX.out.2.2.1 HX.out.2.2.2.1).mono ?_
          rintro e u' w'' ⟨rfl, rfl, b1, b2, ho⟩
          have c1 := b1.cell
          have c2 := b2.cell
          have l1 := b1.lt
          have l2 := b2.lt
          have Hend := Lib.hid (rule_bad HX.out.2.2.2.2 (by decide) (HX.out.1.trans (ho.to_below (B := w.heap.size) (fun g hg => by omega) (by omega))))
          clear b1 b2 ho cr2
          simp [Leaves, settle, results, Try.results29, go_sem, c1, c2, l1, l2, zeroC]
          exact Hend.out
        · rw [if_neg h200] at hfault
          have cr0 : wr.cell? ⟨rb, 0, none⟩ = some (.int .i64 kd) := br.cell 0
          have cr1 : wr.cell? ⟨rb, 1, none⟩ = some (.string nm) := br.cell 1
          have cr3 : wr.cell? ⟨rb, 3, none⟩ = some (.int .i64 n) := br.cell 3
          have cr4 : wr.cell? ⟨rb, 4, none⟩ = some (.int .i64 rn) := br.cell 4
          have cr5 : wr.cell? ⟨rb, 5, none⟩ = some (.int .i64 rd) := br.cell 5
          have cr6 : wr.cell? ⟨rb, 6, none⟩ = some (.int .i64 sn) := br.cell 6
          have cr7 : wr.cell? ⟨rb, 7, none⟩ = some (.int .i64 sd) := br.cell 7
          have fr := br.free
          have ff := bf.free
          have HX := Lib.hid (And.intro hw (And.intro bx (And.intro br (And.intro bf (And.intro hfault (And.intro hown hzi))))))
          have h2' : (zonesW L ws).length ≤ 200 := by omega
          have h3' : ¬ 200 < ((zonesW L ws).length : Int) := by omega
          clear hfault hw bx br bf hown hbad hzi hnil h200
          as_aux_lemma =>
          go_upto_region 18 with (fail)
          clear HH cx2 lx hl h1 h2 hq cr0 cr1 cr2 cr3 cr4 cr5 cr6 cr7 fr ff
          go_wp2_with (first
            | (refine list_load_at (o := ⟨some 71, _, _, _, _, _⟩) rfl _ _ rfl rb 0 rfl (rlC (kd, nm, ws, n, (rn, rd), (sn, sd), att) (.slice A7 (zonesW L ws).length c7)) _ (fun j u h => by rw [Nat.zero_add, HX.out.2.2.1.cell]; exact h) Try.underlying54 rfl (by kernel_rfl) ?_)
            | (refine list_store_bk (o := ⟨none, .store 54 _ _, _, _, _, _⟩) rfl _ _ _ rfl rb (rlC (kd, nm, ws, n, (rn, rd), (sn, sd), att) (.slice A7 (zonesW L ws).length c7)) rfl rfl HX.out.2.2.1 (by kernel_rfl) rfl (one_rl _ _ _ _) ?_; intro X7 hb7 ho7; have H7 := Lib.hid (And.intro hb7 ho7); clear hb7 ho7)
            | (refine list_store_bk (o := ⟨none, .store 89 _ _, _, _, _, _⟩) rfl _ _ _ rfl (rb + 1) #[.int .i64 0, .int .i64 0] rfl rfl (HX.out.2.2.2.1.only H7.out.2 (by simp)) (by kernel_rfl) rfl (by kernel_rfl) ?_; intro X8 hb8 ho8; have H8 := Lib.hid (And.intro hb8 ho8); clear hb8 ho8))
          have b1 := H7.out.1.only H8.out.2 (show ¬ rb = rb + 1 by omega)
          refine leaves_cons (f := 35) (args := #[.pointer (some ⟨rb, 0, none⟩), .pointer (some ⟨rb + 1, 0, none⟩)]) (by simp) (by simp [go_sem]) ?_
          refine (catch_idle rb (rb + 1) X8).mono ?_
          rintro e u' w'' ⟨rfl, rfl, rfl⟩
          have s7 := H7.out.2.size
          have hoo : Only (fun g => g = rb ∨ g = rb + 1) _ w'' := (H7.out.2.mono (fun g h => Or.inl h)).trans (H8.out.2.mono (fun g h => Or.inr h))
          have hel := own_zones HX.out.2.2.2.2.2.1 hoo (fun g hg => by have := (HX.out.2.2.2.2.2.1.lt g hg).1; omega)
          have Hend := Lib.hid (rule_good HX.out.2.2.2.2.1 HX.out.2.2.2.2.2.2 (HX.out.1.trans (hoo.to_below (B := w.heap.size) (fun g hg => by omega) (by omega))) hel)
          have c1 := b1.cell
          have c2 := H8.out.1.cell
          have l1 := b1.lt
          have l2 := H8.out.1.lt
          clear hoo hel b1
          simp [Leaves, settle, results, Try.results29, go_sem, c1, c2, l1, l2, rlC]
          exact Hend.out
end Go.Proofs.Ytecjhniomjmocaa
