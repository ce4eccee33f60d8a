/- Layer 12 (resolve): Compile. -/
import Derived.Test.YtecjhniomjmocaaResN
import Derived.Deep.DeepCutAuto
namespace Go.Proofs.Ytecjhniomjmocaa
open Go.RowKit Go.ChangeAt
set_option linter.unusedVariables false
set_option linter.unusedSimpArgs false
attribute [local go_sem] ext_cell ext_frozen lt_ext ext_drew

theorem Only.trans2 {S S' : Nat → Prop} {a w w' : World} (h : Only S a w) (k : Only S' w w') (hs : ∀ g, S' g → S g ∨ a.heap.size ≤ g) : Only S a w' :=
  ⟨k.os.trans h.os, k.tape.trans h.tape, k.output.trans h.output, Nat.le_trans h.size k.size, fun g hg hn => (k.block g (Nat.lt_of_lt_of_le hg h.size) (fun h' => by
    rcases hs g h' with h1 | h1
    · exact hn h1
    · omega)).trans (h.block g hg hn)⟩
theorem rulesTo_step {L : Nm} {l : List It} {i : Nat} {x : It} (h : l[i]? = some x) : rulesTo L l (i + 1) = rulesTo L l i ++ [if (faultI L (twiceP l i x) x).1 = 0 then ruleI L x else zeroRl] := by
  rw [rulesTo, h]
theorem faultsTo_step {L : Nm} {l : List It} {i : Nat} {x : It} (h : l[i]? = some x) : faultsTo L l (i + 1) = faultsTo L l i ++ if (faultI L (twiceP l i x) x).1 = 0 then [] else [((faultI L (twiceP l i x) x).1, x.2.2.2.2.2.2, (faultI L (twiceP l i x) x).2)] := by
  rw [faultsTo, h]
theorem rulesTo_len {L : Nm} {l : List It} : ∀ {i : Nat}, i ≤ l.length → (rulesTo L l i).length = i
  | 0, _ => rfl
  | i + 1, h => by
    rw [rulesTo_step (List.getElem?_eq_getElem (show i < l.length by omega)), List.length_append, rulesTo_len (by omega)]
    rfl
theorem faultsTo_len {L : Nm} {l : List It} : ∀ {i : Nat}, i ≤ l.length → (faultsTo L l i).length ≤ i
  | 0, _ => Nat.le_refl _
  | i + 1, h => by
    rw [faultsTo_step (List.getElem?_eq_getElem (show i < l.length by omega)), List.length_append]
    have := faultsTo_len (L := L) (l := l) (i := i) (by omega)
    split <;> simp <;> omega
def CompR (w : World) (L : Nm) (ls : List It) (e : Ending) (w' : World) : Prop :=
  Below w.heap.size w w' ∧ ∃ A1 c1 A2 c2, e = .returned (.tuple #[.agg #[.slice A1 (rulesP L ls).length c1], .slice A2 (faultsP L ls).length c2]) ∧
    Elems tRl w' w'.heap.size A1 (rulesP L ls) ∧ Elems tFa w' w'.heap.size A2 (faultsP L ls)

theorem comp_bad {w w' : World} {L : Nm} {ls : List It} {fs : List Fa} {A : Option Addr} {n c : Nat} (hf : faultsP L ls = fs) (hne : fs ≠ []) (hn : fs.length = n) (hb : Below w.heap.size w w') (h : Elems tFa w' w'.heap.size A fs) :
    CompR w L ls (.returned (.tuple #[.agg #[.slice none 0 0], .slice A n c])) w' := by
  subst hf
  subst hn
  have hr : rulesP L ls = [] := by unfold rulesP; rw [if_neg hne]
  exact ⟨hb, none, 0, A, c, by rw [hr]; rfl, by rw [hr]; exact Elems.nil, h⟩
theorem comp_good {w w' : World} {L : Nm} {ls : List It} {rs : List Rl} {A : Option Addr} {n c : Nat} (hf : faultsP L ls = []) (hr : rulesTo L ls ls.length = rs) (hn : rs.length = n) (hb : Below w.heap.size w w') (h : Elems tRl w' w'.heap.size A rs) :
    CompR w L ls (.returned (.tuple #[.agg #[.slice A n c], .slice none 0 0])) w' := by
  subst hn
  have he : rulesP L ls = rs := by unfold rulesP; rw [if_pos hf]; exact hr
  exact ⟨hb, A, c, none, 0, by rw [he, hf]; rfl, by rw [he]; exact h, by rw [hf]; exact Elems.nil⟩

theorem Elems.rd_mem {α : Type} {T : Ty α} {w : World} {B : Nat} {A : Option Addr} {xs : List α} (h : Elems T w B A xs) {x : α} (hx : x ∈ xs) : ∃ cs, T.rd w B cs x := by
  obtain ⟨i, hi, rfl⟩ := List.mem_iff_getElem.1 hx
  obtain ⟨_, _, cs, _, _, h9, _⟩ := h i hi
  exact ⟨cs, h9⟩
theorem tests_fit {w : World} {B : Nat} {A : Option Addr} {ws : List (List Ts)} (h : Elems (tSlice tTs) w B A ws) : ∀ l ∈ ws, ∀ t ∈ l, fits t.2.1 ∧ fits t.2.2.2.1 ∧ fits t.2.2.2.2 := by
  intro l hl t ht
  obtain ⟨cs, A1, c1, _, _, _, h1⟩ := h.rd_mem hl
  obtain ⟨cs2, c3, r1, _, ⟨_, _⟩, ⟨c4, r2, _, ⟨_, f1⟩, ⟨c5, r3, _, ⟨_, _⟩, ⟨c6, r4, _, ⟨_, f2⟩, ⟨_, f3⟩⟩⟩⟩⟩ := h1.rd_mem ht
  exact ⟨f1, f2, f3⟩
theorem badT_fits {L : Nm} : ∀ {l : List Ts} {e : Int × Int}, (∀ t ∈ l, fits t.2.2.2.2) → badT L l = some e → fits e.2
  | [], e, _, h => by simp [badT] at h
  | t :: l, e, hf, h => by
    unfold badT at h
    split at h
    · exact badT_fits (fun t ht => hf t (by simp [ht])) h
    · cases h; exact hf t (by simp)
theorem badW_fits {L : Nm} : ∀ {ws : List (List Ts)} {e : Int × Int}, (∀ l ∈ ws, ∀ t ∈ l, fits t.2.2.2.2) → badW L ws = some e → fits e.2
  | [], e, _, h => by simp [badW] at h
  | l :: r, e, hf, h => by
    unfold badW at h
    cases hx : badT L l with
    | some e9 => rw [hx] at h; cases h; exact badT_fits (hf l (by simp)) hx
    | none => rw [hx] at h; exact badW_fits (fun l hl => hf l (by simp [hl])) h
theorem fault_fits {L : Nm} {tw : Bool} {x : It} (h : ∀ l ∈ x.2.2.1, ∀ t ∈ l, fits t.2.2.2.2) : fits (faultI L tw x).1 ∧ fits (faultI L tw x).2 := by
  unfold faultI
  split
  · simp [fits]
  · split
    · simp [fits]
    · split
      · simp [fits]
      · split
        · rename_i e he
          exact ⟨(badW_ne he).2, badW_fits h he⟩
        · split <;> simp [fits]
/-- The rule of an item, in one form. -/
theorem rule_out {w w' : World} {L : Nm} {tw : Bool} {kd n rn rd sn sd att : Int} {nm : ByteArray} {ws : List (List Ts)} {e : Ending} (h : RuleR w L tw (kd, nm, ws, n, (rn, rd), (sn, sd), att) e w') (hn : nm.size ≤ maxLen) (f1 : fits kd) (f2 : fits n) (f3 : fits rn) (f4 : fits rd) (f5 : fits sn) (f6 : fits sd) :
    ∃ rc q, e = .returned (.tuple #[.agg rc, .agg #[.int .i64 (faultI L tw (kd, nm, ws, n, (rn, rd), (sn, sd), att)).1, .int .i64 (faultI L tw (kd, nm, ws, n, (rn, rd), (sn, sd), att)).2]]) ∧ RlAt w' rc.toList q ∧ rc.size = 8 ∧ rc.all (·.oneCell') = true ∧
      q = (if (faultI L tw (kd, nm, ws, n, (rn, rd), (sn, sd), att)).1 = 0 then ruleI L (kd, nm, ws, n, (rn, rd), (sn, sd), att) else zeroRl) ∧ Below w.heap.size w w' := by
  obtain ⟨hb, h⟩ := h
  by_cases h0 : (faultI L tw (kd, nm, ws, n, (rn, rd), (sn, sd), att)).1 = 0
  · rw [if_pos h0] at h
    rw [if_pos h0]
    obtain ⟨A, c, rfl, hz⟩ := h
    have h2 : (faultI L tw (kd, nm, ws, n, (rn, rd), (sn, sd), att)).2 = 0 := by
      revert h0
      unfold faultI
      split
      · intro h0; simp at h0
      · split
        · intro h0; simp at h0
        · split
          · intro h0; simp at h0
          · split
            · rename_i e he
              intro h0; exact absurd h0 (badW_ne he).1
            · split <;> simp
    rw [h0, h2]
    exact ⟨_, _, rfl, ⟨A, c, rfl, hz, hn, f1, f2, f3, f4, f5, f6⟩, rfl, one_rl _ _ _ _, rfl, hb⟩
  · rw [if_neg h0] at h
    rw [if_neg h0]
    subst h
    exact ⟨zeroC, zeroRl, rfl, ⟨none, 0, rfl, OwnL.nil, by unfold maxLen; decide, by simp [zeroRl, fits], by simp [zeroRl, fits], by simp [zeroRl, fits], by simp [zeroRl, fits], by simp [zeroRl, fits], by simp [zeroRl, fits]⟩, rfl, by kernel_rfl, rfl, hb⟩

set_option maxRecDepth 100000 in
set_option maxHeartbeats 4000000 in
theorem compile_any (A : Option Addr) (ls : List It) (cap : Nat) (hn : ByteArray) (x y : Int) (AH : Option Addr) (lh : List Le) (ch : Nat) (w : World) (B : Nat) (h : Elems tIt w B A ls) (hh : Elems tLe w B AH lh) (hB : B ≤ w.heap.size) (hl : ls.length ≤ 210) (hcap : ls.length ≤ cap) (hcm : cap ≤ 9223372036854775807)
    (h12 : ∀ x ∈ ls, x.2.2.1.length ≤ 12 ∧ ∀ l ∈ x.2.2.1, l.length ≤ 8) (hm1 : lh.length ≤ 10) (hm2 : ∀ l ∈ lh, l.2.2.1.length + l.2.2.2.1.length ≤ 50) (L : Nm) (hL : (lvlsN lh, blksN lh) = L) :
    Calls Try.prog 12 #[.agg #[.slice A ls.length cap], .agg #[.string hn, .int .i64 x, .int .i64 y, .slice AH lh.length ch]] w (CompR w L ls) := by
  have hL1 : L.1.length ≤ 1000000 := by rw [← hL]; simp [lvlsN]; omega
  have hL2 : L.2.length ≤ 1000000 := by
    have h9 := offB_le hm2 lh.length
    unfold offB at h9
    rw [List.take_length] at h9
    rw [← hL]
    show (blksN lh).length ≤ _
    omega
  have HH := Lib.hid (And.intro h (And.intro hh (And.intro h12 (And.intro hm2 hL))))
  clear h hh h12 hm2 hL
  go_enter Try.func12, Try.ntmps12
  go_upto_region 4 with (go_at_call 26; refine (scope_any hn x y AH lh ch _ B (HH.out.2.1.keep (show Below B w _ by refine Below.mono (B := w.heap.size) ?_ hB; (repeat (first | with_reducible exact Below.refl _ _ | with_reducible assumption | with_reducible refine Below.alloc0 ?_ _ | with_reducible refine Below.ext0 ?_ _ | with_reducible refine Below.drew ?_ | with_reducible refine below_drewN ?_ _ | (with_reducible refine Below.setCell (hp := ?hp) ?_ _; case hp => (first | (simp; done) | (simp; omega)))))) (Nat.le_refl _)) (by simp; omega) hm1 HH.out.2.2.2.1).mono ?_; rw [HH.out.2.2.2.2]; rintro e w1 ⟨sb, rfl, hs, hb, hsb⟩; have HS := Lib.hid (And.intro hs (And.intro hb hsb)); clear hs hb hsb)
  have hz1 := HS.out.2.1.size
  simp at hz1
  have hW : Below w.heap.size w w1 := Below.trans0 (show Below w.heap.size w _ by (repeat (first | with_reducible exact Below.refl _ _ | with_reducible assumption | with_reducible refine Below.alloc0 ?_ _ | with_reducible refine Below.ext0 ?_ _ | with_reducible refine Below.drew ?_ | with_reducible refine below_drewN ?_ _ | (with_reducible refine Below.setCell (hp := ?hp) ?_ _; case hp => (first | (simp; done) | (simp; omega)))))) HS.out.2.1
  have hb2 : Bk w1 w.heap.size #[.slice A ls.length cap] 24 := (((Bk.new w #[.slice A ls.length cap] 24).alloc _).alloc _).below HS.out.2.1
  have hb4 : Bk w1 (w.heap.size + 1 + 1) #[.slice none 0 0] 35 := (bk_new_at _ (w.heap.size + 1 + 1) _ _ (by simp)).below HS.out.2.1
  have HS1 := Lib.hid (And.intro HS.out.1 (And.intro hW (And.intro hb2 hb4)))
  have hsb := HS.out.1.lt
  have HE := Lib.hid (HH.out.1.keep (hW.mono hB) (Nat.le_refl _))
  have H12 := Lib.hid HH.out.2.2.1
  refine forget (fun X => Below w1.heap.size w1 X ∧ Bk X w1.heap.size #[.slice none 0 0] 35) ⟨below_self _ _, Bk.new _ _ _⟩ ?_
  have hwz : w.heap.size + 3 ≤ w1.heap.size := by omega
  clear hW hb2 hb4 HH HS hz1
  generalize hpb : w1.heap.size = pb at *
  generalize hb0 : w.heap.size = w0 at *
  rintro X1 ⟨hX, bp⟩
  have c2 : X1.cell? ⟨w0, 0, none⟩ = some (.slice A ls.length cap) := (HS1.out.2.2.1.below (hpb ▸ hX)).cell 0
  have l2 : w0 < X1.heap.size := by have := hX.size; omega
  have HX := Lib.hid (And.intro hX (And.intro bp (And.intro hpb hb0)))
  clear hX bp hpb hb0
  go_wp2_with fail
  clear c2 l2
  go_loopw [8, 9, 10, 11, 12, 13, 19] (fun fv _ _ _ _ _ i wr => ∃ (k : Nat) (v : Value), k ≤ ls.length ∧ k ≤ 200 ∧ i = .int .i64 k ∧ Below pb w1 wr ∧ Bk wr pb #[v] 35 ∧ OwnR wr (pb + 1) v (rulesTo L ls k) ∧ OwnL tFa 81 wr (pb + 1) 0 fv (faultsTo L ls k)) (fun _ _ _ _ _ _ i _ => ls.length - (intOf i).toNat)
  case atStart => exact ⟨0, _, by omega, by omega, rfl, HX.out.1, HX.out.2.1, OwnR.nil, OwnL.nil⟩
  case round =>
    obtain ⟨k, v, hk, hk2, rfl, hw, bp, hr, hf⟩ := hrel
    have hwr := hw.size
    have hpl := bp.lt
    obtain ⟨Af, cf, rfl, hcf, hmf⟩ := hf.form
    have hmf' : cf ≤ 9223372036854775807 := by unfold maxLen at hmf; omega
    have hfl := faultsTo_len (L := L) hk
    have c2 : wr.cell? ⟨w0, 0, none⟩ = some (.slice A ls.length cap) := (HS1.out.2.2.1.below (HX.out.2.2.1 ▸ hw)).cell 0
    have l2 : w0 < wr.heap.size := by omega
    by_cases hlt : k < ls.length
    · obtain ⟨b, off, kd, nm, AW, ws, cw, n, rn, rd, sn, sd, att, rfl, hb, Hk, d0, d1, d2, d3, d4, d5, d6, d7, d8, g1, g2, g3, f1, f2, f3, f4, f5, f6, f7, g4⟩ := pick_it (HE.out.keep (hw.mono (show B ≤ pb by omega)) (Nat.le_refl _)) hlt
      have hkl : (k : Int) < (ls.length : Int) := by omega
      have bw : b < wr.heap.size := by omega
      have HO := Lib.hid (And.intro hw (And.intro bp (And.intro hr hf)))
      clear hw bp hr hf
      by_cases h200 : k = 200
      · have hq200 : ((k : Int) == 200) = true := by simpa using (show (k : Int) = 200 by omega)
        have H200 := Lib.hid h200
        clear h200
        have hlast : Hid (faultsP L ls = faultsTo L ls k ++ [(3, att, -1)]) := Lib.hid (by
          have hk200 := H200.out
          subst hk200
          unfold faultsP
          rw [Nat.min_eq_right (by omega), Hk.out])
        have hnl : 0 < ((faultsTo L ls k).length : Int) + 1 := by omega
        clear g3 g4 Hk
        as_aux_lemma =>
        go_wp2_with (at_builtin; refine list_appendL (T := tFa) (base := pb + 1) (B := 0) (qs := faultsTo L ls k) (v := .slice Af (faultsTo L ls k).length cf) rfl _ _ _ rfl 24 Try.underlying36 (by kernel_rfl) (by decide) one_fa rfl (HO.out.2.2.2.below (show Below wr.heap.size wr _ by (repeat (first | with_reducible exact Below.refl _ _ | with_reducible assumption | with_reducible refine Below.alloc0 ?_ _ | with_reducible refine Below.ext0 ?_ _ | with_reducible refine Below.drew ?_ | with_reducible refine below_drewN ?_ _ | (with_reducible refine Below.setCell (hp := ?hp) ?_ _; case hp => (first | (simp; done) | (simp; omega)))))) (by omega)) (some ⟨wr.heap.size + 1, 0, none⟩) 1 1 [(3, att, -1)] [[.int .i64 3, .int .i64 att, .int .i64 (-1)]] rfl rfl rfl (fun i a1 a2 => by obtain rfl : i = 0 := (by simp at a1; omega); exact fa_rd _ _ (by unfold fits; omega) f7 (by unfold fits; omega)) (by have := lies_bk (bk_next wr (.cells #[.int .i64 kd, .string nm, .slice AW ws.length cw, .int .i64 n, .int .i64 rn, .int .i64 rd, .int .i64 sn, .int .i64 sd, .int .i64 att] 57) #[.int .i64 3, .int .i64 att, .int .i64 (-1)] 81) 1; simpa using this) (by unfold maxLen; omega) (by omega) (by simp; omega) (by omega) ?_; intro A8 c8 w8 hown8 hbel8 hg8 hd8; have H8 := Lib.hid (And.intro hown8 hbel8); clear hown8 hbel8 hg8 hd8; have Hb8 := Lib.hid (HO.out.1.trans (((show Below wr.heap.size wr _ by (repeat (first | with_reducible exact Below.refl _ _ | with_reducible assumption | with_reducible refine Below.alloc0 ?_ _ | with_reducible refine Below.ext0 ?_ _ | with_reducible refine Below.drew ?_ | with_reducible refine below_drewN ?_ _ | (with_reducible refine Below.setCell (hp := ?hp) ?_ _; case hp => (first | (simp; done) | (simp; omega)))))).mono (show pb ≤ wr.heap.size by omega)).trans (H8.out.2.mono (show pb ≤ pb + 1 by omega)))); have Hq8 := Lib.hid (HS1.out.2.2.2.below (HX.out.2.2.1 ▸ Hb8.out)); have c4 := Hq8.out.cell 0; have q4 := Hq8.out.free 0; have l4 := Hq8.out.lt)
        refine bodyPost_ret (v := .tuple #[.agg #[.slice none 0 0], .slice A8 ((faultsTo L ls k).length + 1) c8]) (by simp [results, Try.results12, go_sem, l4, c4]) rfl (comp_bad hlast.out (by simp) (by simp) ?_ ?_)
        · rw [HX.out.2.2.2]
          exact (HS1.out.2.1.trans (Hb8.out.mono (by omega))).setCell (by simp; omega) _
        · exact (H8.out.1.only ((Only.refl (fun g => g = w0 + 1 + 1) w8).set_ (p := ⟨w0 + 1 + 1, 0, none⟩) (.inl rfl) _) (fun g hg => by omega) (by omega) (fun g hg => by have := (H8.out.1.lt g hg).1; omega)).elems (Nat.zero_le _) (Nat.le_refl _)
      · have hq200 : ((k : Int) == 200) = false := by simpa using (show ¬ (k : Int) = 200 by omega)
        have hk3 : k < 200 := by omega
        have hkc : (k : Int) ≤ (cap : Int) := by omega
        have hc0 : ¬ cap = 0 := by omega
        have hk0 : (0 : Int) ≤ (k : Int) := by omega
        clear h200 hk2
        obtain ⟨tw, htw⟩ : ∃ tw, twiceP ls k (kd, nm, ws, n, (rn, rd), (sn, sd), att) = tw := ⟨_, rfl⟩
        have hst := rulesTo_step (L := L) Hk.out
        have hft := faultsTo_step (L := L) Hk.out
        rw [htw] at hst hft
        have hff := fault_fits (L := L) (tw := tw) (x := (kd, nm, ws, n, (rn, rd), (sn, sd), att)) (fun l hl t ht => (tests_fit g3.out l hl t ht).2.2)
        have h12x := H12.out _ (List.mem_of_getElem? Hk.out)
        have HT := Lib.hid (And.intro hst (And.intro hft (And.intro hff h12x)))
        have Htw := Lib.hid (show ((ls.take k).any fun y => sameB y.2.1 nm) = tw from htw)
        have hmk : ∀ (fn : Fn) (first cap : Array Value) (w : World), (Instr.makeFunc fn first cap).run Try.prog w = .ok (.func fn first cap) w := fun _ _ _ _ => rfl
        have hlk : (ls.take k).length = k := by rw [List.length_take]; omega
        have Hlk := Lib.hid hlk
        clear hst hft hff h12x htw hlk
        go_upto_region 10 with (go_at_call 27; refine (contains_any _ (ls.take k) k _ _ nm _ B ((HE.out.take k).keep (show Below B w1 _ from ((HO.out.1.trans ((below_self wr _).mono (show pb ≤ wr.heap.size by omega))).mono (show B ≤ pb by omega))) (Nat.le_refl _)) (by simp; omega) ((Bk.new wr #[.int .i64 kd, .string nm, .slice AW ws.length cw, .int .i64 n, .int .i64 rn, .int .i64 rd, .int .i64 sn, .int .i64 sd, .int .i64 att] 57).cell 1) (by simp) (by rw [Hlk.out]; omega) Hlk.out tw Htw.out).mono ?_; rintro e w2 ⟨rfl, hb2⟩; have Hb2 := Lib.hid hb2; clear hb2)
        have hb9 : Below wr.heap.size wr w2 := (below_self wr _).trans (Hb2.out.mono (by simp))
        refine forget (fun X => Below pb w1 X ∧ Bk X wr.heap.size #[.int .i64 kd, .string nm, .slice AW ws.length cw, .int .i64 n, .int .i64 rn, .int .i64 rd, .int .i64 sn, .int .i64 sd, .int .i64 att] 57 ∧ Bk X pb #[v] 35 ∧ OwnR X (pb + 1) v (rulesTo L ls k) ∧ OwnL tFa 81 X (pb + 1) 0 (.slice Af (faultsTo L ls k).length cf) (faultsTo L ls k) ∧ Elems (tSlice tTs) X B AW ws) ⟨HO.out.1.trans (hb9.mono (show pb ≤ wr.heap.size by omega)), (Bk.new _ _ _).below Hb2.out, HO.out.2.1.below hb9, HO.out.2.2.1.below hb9, HO.out.2.2.2.below hb9 (by omega), g3.out.keep (hb9.mono (by omega)) (Nat.le_refl _)⟩ ?_
        have hfo := fun g hg => (HO.out.2.2.2.lt g hg).2
        have hro := fun g hg => (HO.out.2.2.1.lt g hg).2
        have HFO := Lib.hid (And.intro hfo hro)
        clear HO hb9 Hb2 Htw Hlk hmk hkc hc0 hk0 g3 g4 d0 d1 d2 d3 d4 d5 d6 d7 d8 c2 l2 bw hb hfo hro hq200 hmf
        generalize hxb : wr.heap.size = xb at *
        clear hxb
        rintro X ⟨hX2, bx, bp, hr, hf, he⟩
        have hXz := hX2.size
        have hXz' : pb ≤ X.heap.size := by have := HX.out.2.2.1; omega
        obtain ⟨er, her⟩ : ∃ e, (faultI L tw (kd, nm, ws, n, (rn, rd), (sn, sd), att)).1 = e := ⟨_, rfl⟩
        obtain ⟨ot, hot⟩ : ∃ e, (faultI L tw (kd, nm, ws, n, (rn, rd), (sn, sd), att)).2 = e := ⟨_, rfl⟩
        have hff := HT.out.2.2.1
        rw [her, hot] at hff
        obtain ⟨fe, fo⟩ := hff
        have hxl := bx.lt
        have cx0 : X.cell? ⟨xb, 0, none⟩ = some (.int .i64 kd) := bx.cell 0
        have cx1 : X.cell? ⟨xb, 1, none⟩ = some (.string nm) := bx.cell 1
        have cx2 : X.cell? ⟨xb, 2, none⟩ = some (.slice AW ws.length cw) := bx.cell 2
        have cx3 : X.cell? ⟨xb, 3, none⟩ = some (.int .i64 n) := bx.cell 3
        have cx4 : X.cell? ⟨xb, 4, none⟩ = some (.int .i64 rn) := bx.cell 4
        have cx5 : X.cell? ⟨xb, 5, none⟩ = some (.int .i64 rd) := bx.cell 5
        have cx6 : X.cell? ⟨xb, 6, none⟩ = some (.int .i64 sn) := bx.cell 6
        have cx7 : X.cell? ⟨xb, 7, none⟩ = some (.int .i64 sd) := bx.cell 7
        have cx8 : X.cell? ⟨xb, 8, none⟩ = some (.int .i64 att) := bx.cell 8
        have HP := Lib.hid (And.intro hX2 (And.intro bx (And.intro bp (And.intro hr (And.intro hf (And.intro he (And.intro her hot)))))))
        clear hX2 bx bp hr hf he her hot
        go_upto_region 11 with (first
          | (go_at_call 29; refine (rule_any sb L tw kd nm AW cw n rn rd sn sd att X ws B HP.out.2.2.2.2.2.1 (by omega) (HS1.out.1.below (HX.out.2.2.1 ▸ HP.out.1)) hL1 hL2 HT.out.2.2.2.1 HT.out.2.2.2.2 f1 f2 f3 f4 f5 f6).mono ?_; rintro e w3 hR; obtain ⟨rc, q, he, hq1, hq2, hq3, hq4, hb3⟩ := rule_out hR (by unfold maxLen; omega) f1 f2 f3 f4 f5 f6; rw [HP.out.2.2.2.2.2.2.1, HP.out.2.2.2.2.2.2.2] at he; rw [HP.out.2.2.2.2.2.2.1] at hq4; subst he; have H3 := Lib.hid (And.intro hq1 (And.intro hq2 (And.intro hq3 (And.intro hq4 hb3)))); clear hR hq1 hq2 hq3 hq4 hb3)
          | (refine list_store_bk (o := ⟨none, .store 54 _ _, _, _, _, _⟩) rfl _ _ _ rfl w3.heap.size rc rfl rfl ((Bk.new w3 zeroC 54).alloc _) (by rw [H3.out.2.1]; kernel_rfl) (by rw [H3.out.2.1]; rfl) H3.out.2.2.1 ?_; intro X7 hb7 ho7; have H7 := Lib.hid (And.intro hb7 ho7); clear hb7 ho7)
          | (refine list_store_bk (o := ⟨none, .store 89 _ _, _, _, _, _⟩) rfl _ _ _ rfl (w3.heap.size + 1) #[.int .i64 er, .int .i64 ot] rfl rfl ((bk_next w3 (.cells zeroC 54) #[.int .i64 0, .int .i64 0] 89).only H7.out.2 (by simp)) (by kernel_rfl) rfl (by kernel_rfl) ?_; intro X8 hb8 ho8; have H8 := Lib.hid (And.intro hb8 ho8); clear hb8 ho8))
        simp only [Act.put]
        have hb7 : Below w3.heap.size w3 X8 := ((show Below w3.heap.size w3 _ by (repeat (first | with_reducible exact Below.refl _ _ | with_reducible assumption | with_reducible refine Below.alloc0 ?_ _ | with_reducible refine Below.ext0 ?_ _ | with_reducible refine Below.drew ?_ | with_reducible refine below_drewN ?_ _ | (with_reducible refine Below.setCell (hp := ?hp) ?_ _; case hp => (first | (simp; done) | (simp; omega)))))).trans (H7.out.2.to_below (B := w3.heap.size) (fun g hg => by omega) (by simp; omega))).trans (H8.out.2.to_below (B := w3.heap.size) (fun g hg => by omega) (by have := H7.out.2.size; simp at this; omega))
        have hb8 : Below X.heap.size X X8 := H3.out.2.2.2.2.trans (hb7.mono H3.out.2.2.2.2.size)
        have HQ := Lib.hid H3.out.2.2.2.1
        have H8s := Lib.hid H3.out.2.1
        have hw3 := H3.out.2.2.2.2.size
        refine forget (fun Y => Below pb w1 Y ∧ Bk Y xb #[.int .i64 kd, .string nm, .slice AW ws.length cw, .int .i64 n, .int .i64 rn, .int .i64 rd, .int .i64 sn, .int .i64 sd, .int .i64 att] 57 ∧ Bk Y pb #[v] 35 ∧ OwnR Y (pb + 1) v (rulesTo L ls k) ∧ OwnL tFa 81 Y (pb + 1) 0 (.slice Af (faultsTo L ls k).length cf) (faultsTo L ls k) ∧ Bk Y w3.heap.size rc 54 ∧ Bk Y (w3.heap.size + 1) #[.int .i64 er, .int .i64 ot] 89 ∧ RlAt Y rc.toList q) ⟨HP.out.1.trans (hb8.mono hXz'), HP.out.2.1.below hb8, HP.out.2.2.1.below hb8, HP.out.2.2.2.1.below hb8, HP.out.2.2.2.2.1.below hb8 (by omega), H7.out.1.only H8.out.2 (by omega), H8.out.1, H3.out.1.only (S := fun _ => False) (Only.of_below hb7) (fun g hg => hg.elim)⟩ ?_
        clear H7 H8 H3 hb7 hb8 cx0 cx1 cx2 cx3 cx4 cx5 cx6 cx7 cx8
        generalize w3.heap.size = rb at *
        rintro Y ⟨hY, bx, bp, hr, hf, br, bq, hq⟩
        have cb0 : Y.cell? ⟨rb + 1, 0, none⟩ = some (.int .i64 er) := bq.cell 0
        have lb0 := bq.lt
        by_cases he0 : er = 0
        · have Hne := Lib.hid he0
          have hfe : Hid (faultsTo L ls (k + 1) = faultsTo L ls k) := Lib.hid (by rw [HT.out.2.1, HP.out.2.2.2.2.2.2.1, if_pos he0, List.append_nil])
          subst he0
          clear bx bq
          as_aux_lemma =>
          obtain ⟨Ar, cr, rfl, hcr, hmr⟩ := hr.form
          have hmr' : cr ≤ 9223372036854775807 := by unfold maxLen at hmr; omega
          have hrl : (rulesTo L ls k).length ≤ 1000 := by rw [rulesTo_len hk]; omega
          have cp0 : Y.cell? ⟨pb, 0, none⟩ = some (.slice Ar (rulesTo L ls k).length cr) := bp.cell 0
          have fp0 := bp.free 0
          have lp0 := bp.lt
          have hYz := hY.size
          have lr0 := br.lt
          have hro := fun g hg => (hr.lt g hg)
          have HY := Lib.hid (And.intro hY (And.intro bp (And.intro hr (And.intro hf (And.intro br hq)))))
          clear hY bp hr hf br hq
          go_wp2_with (first
            | (refine list_load_at (o := ⟨some 60, _, _, _, _, _⟩) rfl _ _ rfl rb 0 rfl rc _ (fun j u h => by rw [Nat.zero_add, HY.out.2.2.2.2.1.cell]; exact h) Try.underlying54 rfl (by rw [H8s.out]; kernel_rfl) ?_)
            | (refine list_lit1 (o := ⟨some 61, _, _, _, _, _⟩) rfl _ 54 _ rfl rc rfl Try.underlying33 (by rw [H8s.out]; kernel_rfl) (by rw [H8s.out]; decide) (by rw [H8s.out]; decide) (by rw [H8s.out]; kernel_rfl) ?_)
            | (at_builtin; refine list_appendR (base := pb + 1) (v := .slice Ar (rulesTo L ls k).length cr) (qs := rulesTo L ls k) rfl _ _ rfl rfl (HY.out.2.2.1.below (below_self _ _)) (some ⟨Y.heap.size, 0, none⟩) 1 rc.toList q rfl (lies_bk (Bk.new Y rc 54) 1) (HY.out.2.2.2.2.2.only (Only.of_below (S := fun _ => False) (below_self _ _)) (fun g hg => hg.elim)) (by omega) (by simp; omega) ?_; intro A5 c5 w5 hr5 hb5 ho5; have H5 := Lib.hid (And.intro hr5 (And.intro hb5 ho5)); clear hr5 hb5 ho5; have hS5 : Only (fun g => (Value.slice Ar (rulesTo L ls k).length cr).ownBlock = some g) Y w5 := Only.trans2 (S' := fun g => (Value.slice Ar (rulesTo L ls k).length cr).ownBlock = some g) (Only.of_below (below_self Y (.cells rc 54))) H5.out.2.2 (fun g hg => .inl hg); have hq5 := HY.out.2.1.only hS5 (fun h => by have := (hro pb h).1; omega); have cq5 : w5.cell? ⟨pb, 0, none⟩ = some (.slice Ar (rulesTo L ls k).length cr) := hq5.cell 0; have fq5 := hq5.free 0; have lq5 := hq5.lt; have HS5 := Lib.hid (And.intro hS5 hq5); clear hS5 hq5))
          go_roundw
          case rel =>
            have hs6 : Only (fun g => g = pb) w5 (w5.setCell ⟨pb, 0, none⟩ (.slice A5 ((rulesTo L ls k).length + 1) c5)) := (Only.refl (fun g => g = pb) w5).set_ (p := ⟨pb, 0, none⟩) (.inl rfl) _
            have hfr : ∀ g, (Value.slice Af (faultsTo L ls k).length cf).ownBlock = some g → ¬ (Value.slice Ar (rulesTo L ls k).length cr).ownBlock = some g := fun g h1 h2 => by
              obtain ⟨C1, k1⟩ := ownL_typed HY.out.2.2.2.1 h1
              obtain ⟨C2, k2⟩ := HY.out.2.2.1.typed h2
              exact bk_ne k1 k2 (by decide) rfl
            have hf5 := HY.out.2.2.2.1.only HS5.out.1 (fun g hg => Nat.zero_le _) (Nat.zero_le _) hfr
            refine ⟨k + 1, .slice A5 ((rulesTo L ls k).length + 1) c5, by omega, by omega, by go_num, ?_, ?_, ?_, ?_⟩
            · exact ((HY.out.1.trans (HS5.out.1.to_below (B := pb) (fun g hg => by have := (hro g hg).1; omega) (by omega))).trans (hs6.to_below (B := pb) (fun g hg => by omega) (by omega)))
            · exact HS5.out.2.set_ 0 _
            · rw [HT.out.1, HP.out.2.2.2.2.2.2.1, ← HQ.out]
              exact H5.out.1.only hs6 (fun g hg => by subst hg; exact ⟨_, _, HS5.out.2, by decide⟩) (fun g hg h => by have := (H5.out.1.lt g hg).1; omega)
            · have e9 : faultsTo L ls (k + 1) = faultsTo L ls k := hfe.out
              rw [e9]
              exact hf5.only hs6 (fun g hg => Nat.zero_le _) (Nat.zero_le _) (fun g hg h => by have := (hf5.lt g hg).1; omega)
          case measure => simp [intOf]; omega
        · have Hne := Lib.hid he0
          have hfe : Hid (faultsTo L ls (k + 1) = faultsTo L ls k ++ [(er, att, ot)]) := Lib.hid (by rw [HT.out.2.1, HP.out.2.2.2.2.2.2.1, HP.out.2.2.2.2.2.2.2, if_neg he0])
          have hb1 : (er == 0) = false := by simpa using he0
          have hb2 : (er != 0) = true := by simpa using he0
          have cb1 : Y.cell? ⟨rb + 1, 1, none⟩ = some (.int .i64 ot) := bq.cell 1
          have cx8 : Y.cell? ⟨xb, 8, none⟩ = some (.int .i64 att) := bx.cell 8
          have lx8 := bx.lt
          have hYz2 : pb + 1 ≤ Y.heap.size := by have := bp.lt; omega
          have HZ := Lib.hid (And.intro hY (And.intro bx (And.intro bp (And.intro hr (And.intro hf (And.intro br (And.intro bq hq)))))))
          clear hY bx bp hr hf br bq hq
          as_aux_lemma =>
          go_upto_region 13 with (at_builtin; refine list_appendL (T := tFa) (base := pb + 1) (B := 0) (qs := faultsTo L ls k) (v := .slice Af (faultsTo L ls k).length cf) rfl _ _ _ rfl 24 Try.underlying36 (by kernel_rfl) (by decide) one_fa rfl (HZ.out.2.2.2.2.1.below (below_self _ _) (Nat.zero_le _)) (some ⟨Y.heap.size, 0, none⟩) 1 1 [(er, att, ot)] [[.int .i64 er, .int .i64 att, .int .i64 ot]] rfl rfl rfl (fun i a1 a2 => by obtain rfl : i = 0 := (by simp at a1; omega); exact fa_rd _ _ fe f7 fo) (by have := lies_bk (Bk.new Y #[.int .i64 er, .int .i64 att, .int .i64 ot] 81) 1; simpa using this) (by unfold maxLen; omega) (by omega) (by simp; omega) (by omega) ?_; intro A8 c8 w8 hown8 hbel8 hg8 hd8; have H8 := Lib.hid (And.intro hown8 hg8); clear hown8 hbel8 hg8 hd8)
          have hS8 : Only (fun g => (Value.slice Af (faultsTo L ls k).length cf).ownBlock = some g) Y w8 := ((Only.refl _ Y).alloc _).grown H8.out.2 (fun g e => .inl e)
          have hty : ∀ g, (Value.slice Af (faultsTo L ls k).length cf).ownBlock = some g → ∃ C t, Bk Y g C t ∧ t ≠ 42 := fun g hg => by
            obtain ⟨C, hC⟩ := ownL_typed HZ.out.2.2.2.2.1 hg
            exact ⟨C, _, hC, by decide⟩
          have hnb : ∀ {g : Nat} {C : Array Value} {t : TypeId}, Bk Y g C t → t ≠ 81 → ¬ (Value.slice Af (faultsTo L ls k).length cf).ownBlock = some g := fun hb hne h => by
            obtain ⟨C, hC⟩ := ownL_typed HZ.out.2.2.2.2.1 h
            exact bk_ne hb hC hne rfl
          have hbl : Below pb w1 w8 := HZ.out.1.trans (hS8.to_below (B := pb) (fun g hg => by have := (HZ.out.2.2.2.2.1.lt g hg).1; omega) (by omega))
          refine forget (fun Y2 => Below pb w1 Y2 ∧ Bk Y2 pb #[v] 35 ∧ OwnR Y2 (pb + 1) v (rulesTo L ls k) ∧ OwnL tFa 81 Y2 (pb + 1) 0 (.slice A8 ((faultsTo L ls k).length + 1) c8) (faultsTo L ls k ++ [(er, att, ot)]) ∧ Bk Y2 rb rc 54 ∧ RlAt Y2 rc.toList q) ⟨hbl, HZ.out.2.2.1.only hS8 (hnb HZ.out.2.2.1 (by decide)), HZ.out.2.2.2.1.only hS8 hty (fun g hg => by
            obtain ⟨C, hC⟩ := HZ.out.2.2.2.1.typed hg
            exact hnb hC (by decide)), H8.out.1, HZ.out.2.2.2.2.2.1.only hS8 (hnb HZ.out.2.2.2.2.2.1 (by decide)), HZ.out.2.2.2.2.2.2.2.only hS8 hty⟩ ?_
          clear HZ H8 hS8 hty hnb hbl cb0 cb1 cx8 lx8 lb0 hb1 hb2 hYz2
          rintro Y2 ⟨hY, bp, hr, hf, br, hq⟩
          obtain ⟨Ar, cr, rfl, hcr, hmr⟩ := hr.form
          have hmr' : cr ≤ 9223372036854775807 := by unfold maxLen at hmr; omega
          have hrl : (rulesTo L ls k).length ≤ 1000 := by rw [rulesTo_len hk]; omega
          have cp0 : Y2.cell? ⟨pb, 0, none⟩ = some (.slice Ar (rulesTo L ls k).length cr) := bp.cell 0
          have fp0 := bp.free 0
          have lp0 := bp.lt
          have hYz := hY.size
          have lr0 := br.lt
          have hro := fun g hg => (hr.lt g hg)
          have HY := Lib.hid (And.intro hY (And.intro bp (And.intro hr (And.intro hf (And.intro br hq)))))
          clear hY bp hr hf br hq
          go_wp2_with (first
            | (refine list_load_at (o := ⟨some 60, _, _, _, _, _⟩) rfl _ _ rfl rb 0 rfl rc _ (fun j u h => by rw [Nat.zero_add, HY.out.2.2.2.2.1.cell]; exact h) Try.underlying54 rfl (by rw [H8s.out]; kernel_rfl) ?_)
            | (refine list_lit1 (o := ⟨some 61, _, _, _, _, _⟩) rfl _ 54 _ rfl rc rfl Try.underlying33 (by rw [H8s.out]; kernel_rfl) (by rw [H8s.out]; decide) (by rw [H8s.out]; decide) (by rw [H8s.out]; kernel_rfl) ?_)
            | (at_builtin; refine list_appendR (base := pb + 1) (v := .slice Ar (rulesTo L ls k).length cr) (qs := rulesTo L ls k) rfl _ _ rfl rfl (HY.out.2.2.1.below (below_self _ _)) (some ⟨Y2.heap.size, 0, none⟩) 1 rc.toList q rfl (lies_bk (Bk.new Y2 rc 54) 1) (HY.out.2.2.2.2.2.only (Only.of_below (S := fun _ => False) (below_self _ _)) (fun g hg => hg.elim)) (by omega) (by simp; omega) ?_; intro A5 c5 w5 hr5 hb5 ho5; have H5 := Lib.hid (And.intro hr5 (And.intro hb5 ho5)); clear hr5 hb5 ho5; have hS5 : Only (fun g => (Value.slice Ar (rulesTo L ls k).length cr).ownBlock = some g) Y2 w5 := Only.trans2 (S' := fun g => (Value.slice Ar (rulesTo L ls k).length cr).ownBlock = some g) (Only.of_below (below_self Y2 (.cells rc 54))) H5.out.2.2 (fun g hg => .inl hg); have hq5 := HY.out.2.1.only hS5 (fun h => by have := (hro pb h).1; omega); have cq5 : w5.cell? ⟨pb, 0, none⟩ = some (.slice Ar (rulesTo L ls k).length cr) := hq5.cell 0; have fq5 := hq5.free 0; have lq5 := hq5.lt; have HS5 := Lib.hid (And.intro hS5 hq5); clear hS5 hq5))
          go_roundw
          case rel =>
            have hs6 : Only (fun g => g = pb) w5 (w5.setCell ⟨pb, 0, none⟩ (.slice A5 ((rulesTo L ls k).length + 1) c5)) := (Only.refl (fun g => g = pb) w5).set_ (p := ⟨pb, 0, none⟩) (.inl rfl) _
            have hfr : ∀ g, (Value.slice A8 ((faultsTo L ls k).length + 1) c8).ownBlock = some g → ¬ (Value.slice Ar (rulesTo L ls k).length cr).ownBlock = some g := fun g h1 h2 => by
              obtain ⟨C1, k1⟩ := ownL_typed HY.out.2.2.2.1 h1
              obtain ⟨C2, k2⟩ := HY.out.2.2.1.typed h2
              exact bk_ne k1 k2 (by decide) rfl
            have hf5 := HY.out.2.2.2.1.only HS5.out.1 (fun g hg => Nat.zero_le _) (Nat.zero_le _) hfr
            refine ⟨k + 1, .slice A5 ((rulesTo L ls k).length + 1) c5, by omega, by omega, by go_num, ?_, ?_, ?_, ?_⟩
            · exact ((HY.out.1.trans (HS5.out.1.to_below (B := pb) (fun g hg => by have := (hro g hg).1; omega) (by omega))).trans (hs6.to_below (B := pb) (fun g hg => by omega) (by omega)))
            · exact HS5.out.2.set_ 0 _
            · rw [HT.out.1, HP.out.2.2.2.2.2.2.1, ← HQ.out]
              exact H5.out.1.only hs6 (fun g hg => by subst hg; exact ⟨_, _, HS5.out.2, by decide⟩) (fun g hg h => by have := (H5.out.1.lt g hg).1; omega)
            · have e9 : faultsTo L ls (k + 1) = faultsTo L ls k ++ [(er, att, ot)] := hfe.out
              rw [e9]
              exact hf5.only hs6 (fun g hg => Nat.zero_le _) (Nat.zero_le _) (fun g hg h => by have := (hf5.lt g hg).1; omega)
          case measure => simp [intOf]; omega
    · obtain rfl : k = ls.length := by omega
      have hfp : faultsP L ls = faultsTo L ls ls.length := by
        unfold faultsP
        rw [Nat.min_eq_left hk2, List.getElem?_eq_none (by omega), List.append_nil]
      have Hfp := Lib.hid hfp
      have hq4 := HS1.out.2.2.2.below (HX.out.2.2.1 ▸ hw)
      have c4 : wr.cell? ⟨w0 + 1 + 1, 0, none⟩ = some (.slice none 0 0) := hq4.cell 0
      have q4 := hq4.free 0
      have l4 := hq4.lt
      obtain ⟨Ar, cr, rfl, hcr, hmr⟩ := hr.form
      have cp0 : wr.cell? ⟨pb, 0, none⟩ = some (.slice Ar (rulesTo L ls ls.length).length cr) := bp.cell 0
      have HO := Lib.hid (And.intro hw (And.intro bp (And.intro hr hf)))
      clear hfp hq4 hw bp hr hf c2 l2 hcf hmf hmf' hcr hmr hwr
      have hs6 : ∀ u, Only (fun g => g = w0 + 1 + 1) wr (wr.setCell ⟨w0 + 1 + 1, 0, none⟩ u) := fun u => (Only.refl (fun g => g = w0 + 1 + 1) wr).set_ (p := ⟨w0 + 1 + 1, 0, none⟩) (.inl rfl) _
      have Hs6 := Lib.hid hs6
      clear hs6
      by_cases hnil : faultsTo L ls ls.length = []
      · have hl0 : (faultsTo L ls ls.length).length = 0 := by rw [hnil]; rfl
        have Hnil := Lib.hid hnil
        clear hnil
        as_aux_lemma =>
        go_wp2_with fail
        refine bodyPost_ret (v := .tuple #[.agg #[.slice Ar (rulesTo L ls ls.length).length cr], .slice none 0 0]) (by simp [results, Try.results12, go_sem, l4, c4]) rfl (comp_good (Hfp.out.trans Hnil.out) rfl rfl ?_ ?_)
        · rw [HX.out.2.2.2]
          exact (HS1.out.2.1.trans (HO.out.1.mono (by omega))).setCell (by simp; omega) _
        · exact (HO.out.2.2.1.only (Hs6.out _) (fun g hg => by subst hg; exact ⟨_, _, HS1.out.2.2.2.below (HX.out.2.2.1 ▸ HO.out.1), by decide⟩) (fun g hg => by have := (HO.out.2.2.1.lt g hg).1; omega)).elems
      · have hnl : 0 < ((faultsTo L ls ls.length).length : Int) := by
          have : (faultsTo L ls ls.length).length ≠ 0 := fun h => hnil (List.length_eq_zero_iff.1 h)
          omega
        have Hnil := Lib.hid hnil
        clear hnil cp0
        as_aux_lemma =>
        go_wp2_with fail
        refine bodyPost_ret (v := .tuple #[.agg #[.slice none 0 0], .slice Af (faultsTo L ls ls.length).length cf]) (by simp [results, Try.results12, go_sem, l4, c4]) rfl (comp_bad Hfp.out Hnil.out rfl ?_ ?_)
        · rw [HX.out.2.2.2]
          exact (HS1.out.2.1.trans (HO.out.1.mono (by omega))).setCell (by simp; omega) _
        · exact (HO.out.2.2.2.only (Hs6.out _) (fun g hg => Nat.zero_le _) (Nat.zero_le _) (fun g hg => by have := (HO.out.2.2.2.lt g hg).1; omega)).elems (Nat.zero_le _) (Nat.le_refl _)
end Go.Proofs.Ytecjhniomjmocaa
