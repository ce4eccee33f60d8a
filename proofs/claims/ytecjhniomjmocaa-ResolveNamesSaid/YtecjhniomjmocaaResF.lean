/- Layer 12 (resolve): the zones of an alternative. -/
import Derived.Test.YtecjhniomjmocaaResD
import Derived.Test.YtecjhniomjmocaaResE
import Derived.Test.YtecjhniomjmocaaPlanI
import Derived.Test.YtecjhniomjmocaaLit
namespace Go.Proofs.Ytecjhniomjmocaa
open Go.RowKit Go.ChangeAt
set_option linter.unusedVariables false
set_option linter.unusedSimpArgs false
attribute [local go_sem] ext_cell ext_frozen lt_ext ext_drew

theorem znV_size {z : Zn} (h : z.length = 10) : (znV z).size = 20 := by simp [znV, pairsV_len, h]
theorem zn_rd (w : World) (B : Nat) {z : Zn} (hz : z.length = 10) (hf : ∀ r ∈ z, fits r.1 ∧ fits r.2) : tZn.rd w B (pairsV z) z := by
  refine ⟨by rw [pairsV_len, hz]; rfl, hz, fun i hi => ?_⟩
  have h := pairsV_at (List.getElem?_eq_getElem hi)
  refine ⟨[.int .i64 z[i].1], [.int .i64 z[i].2], ?_, ⟨rfl, (hf _ (List.getElem_mem hi)).1⟩, ⟨rfl, (hf _ (List.getElem_mem hi)).2⟩⟩
  apply List.ext_getElem?
  intro j
  have hn : tRg.n = 2 := rfl
  rw [hn, List.getElem?_take]
  by_cases hj : j < 2
  · rw [if_pos hj, List.getElem?_drop]
    rcases (show j = 0 ∨ j = 1 by omega) with rfl | rfl
    · exact h.1
    · exact h.2
  · rw [if_neg hj, List.getElem?_eq_none (by simp; omega)]
/-- A slice of one zone. -/
theorem one_zones {w : World} {g B : Nat} {z : Zn} (h : Bk w g (znV z) 42) (hz : GoodZ z) (hB : g < B) : Elems tZn w B (some ⟨g, 0, none⟩) [z] :=
  Elems.of_block [pairsV z] h hB rfl (fun i hi => by
    obtain rfl : i = 0 := by simpa using hi
    exact zn_rd w B hz.1 hz.2) (by simp [znV])
theorem info_zn {z : Zn} (h : z.length = 10) : (Try.prog.info? 42).map (fun i => (i.size, i.zero.isSome)) = some ((znV z).size, true) := by rw [znV_size h]; kernel_rfl
theorem zero_zn {z : Zn} (h : z.length = 10) : ((Try.prog.info? 42).bind (·.zero)).map (·.cells.size) = some (znV z).size := by rw [znV_size h]; kernel_rfl
theorem znV_at {z : Zn} {k : Nat} (h : k < z.length) : (znV z)[k * 2]? = some (.int .i64 (atR z k).1) ∧ (znV z)[k * 2 + 1]? = some (.int .i64 (atR z k).2) := by
  have := pairsV_at (atR_get h)
  simpa [znV] using this
theorem pick_zn {w : World} {B : Nat} {A : Option Addr} {zs : List Zn} (h : Elems tZn w B A zs) {k : Nat} (hk : k < zs.length) :
    ∃ b off z, A = some ⟨b, off, none⟩ ∧ b < B ∧ Hid (zs[k]? = some z) ∧ z ∈ zs ∧ Hid (∀ j u, (znV z)[j]? = some u → w.cell? ⟨b, off + k * 20 + j, none⟩ = some u) := by
  obtain ⟨b, off, z, cs, hA, hb, _, hx, hz, hr, hc⟩ := h.pick hk
  obtain ⟨rfl, _, _⟩ := zn_cells hr
  exact ⟨b, off, z, hA, hb, hx, hz, fun j u hu => hc j u (by simpa [znV] using hu)⟩
theorem znV_set {z : Zn} {k : Nat} (hk : k < z.length) (r : Rg) : ((znV z).setIfInBounds (k * 2) (.int .i64 r.1)).setIfInBounds (k * 2 + 1) (.int .i64 r.2) = znV (z.set k r) := by
  have hl : (znV z).size = z.length * 2 := by simp [znV, pairsV_len]
  have hl2 : (znV (z.set k r)).size = z.length * 2 := by simp [znV, pairsV_len]
  have hl3 : ((znV z).setIfInBounds (k * 2) (.int .i64 r.1)).size = z.length * 2 := by rw [Array.size_setIfInBounds, hl]
  apply Array.ext_getElem?
  intro i
  rw [Array.getElem?_setIfInBounds, Array.getElem?_setIfInBounds, hl3, hl]
  by_cases hi2 : i < z.length * 2
  · have hi : i / 2 < z.length := by omega
    have e1 := znV_at (z := z) hi
    have e2 := znV_at (z := z.set k r) (k := i / 2) (by simpa using hi)
    have at_set : atR (z.set k r) (i / 2) = if i / 2 = k then r else atR z (i / 2) := by
      unfold atR
      rw [List.getD_eq_getElem?_getD, List.getD_eq_getElem?_getD, List.getElem?_set]
      by_cases hc : i / 2 = k
      · rw [if_pos hc.symm, if_pos hc, if_pos (by omega)]; rfl
      · rw [if_neg (fun h => hc h.symm), if_neg hc]
    rw [at_set] at e2
    rcases (show i = i / 2 * 2 ∨ i = i / 2 * 2 + 1 by omega) with e9 | e9
    · have q1 := e1.1
      have q2 := e2.1
      rw [← e9] at q1 q2
      rw [q2, if_neg (by omega)]
      by_cases hc : i / 2 = k
      · rw [if_pos (by omega), if_pos (by omega), if_pos hc]
      · rw [if_neg (by omega), if_neg hc, q1]
    · have q1 := e1.2
      have q2 := e2.2
      rw [← e9] at q1 q2
      rw [q2]
      by_cases hc : i / 2 = k
      · rw [if_pos (by omega), if_pos (by omega), if_pos hc]
      · rw [if_neg (by omega), if_neg (by omega), if_neg hc, q1]
  · rw [Array.getElem?_eq_none (by omega), Array.getElem?_eq_none (show (znV (z.set k r)).size ≤ i by omega), if_neg (by omega), if_neg (by omega)]
theorem bk_ne {w : World} {b b' : Nat} {C C' : Array Value} {t t' : TypeId} (h : Bk w b C t) (h' : Bk w b' C' t') (hne : t ≠ t') : b ≠ b' := by
  rintro rfl
  have h3 : w.heap[b]? = some (.cells C t) := h
  have h4 : w.heap[b]? = some (.cells C' t') := h'
  cases h3.symm.trans h4
  exact hne rfl
theorem other_zn {w : World} {base B : Nat} {t : TypeId} {v : Value} {qs : List Zn} {b : Nat} {C : Array Value} (h : OwnL tZn 42 w base B v qs) (hb : Bk w b C t) (hne : t ≠ 42) : some b ≠ v.ownBlock := by
  obtain ⟨css, _, _, h⟩ := h
  rcases h.2 with ⟨rfl, _⟩ | ⟨g, cap, cur, rfl, _, h2, _⟩
  · simp [Value.ownBlock]
  · simp only [Value.ownBlock, ne_eq, Option.some.injEq]
    rintro rfl
    have h3 : w.heap[b]? = some (.cells C t) := hb
    cases h2.symm.trans h3
    exact hne rfl
theorem one_zn : ∀ (w : World) (B : Nat) (cs : List Value) (x : Zn), tZn.rd w B cs x → ∀ u ∈ cs, u.oneCell' = true := fun w B cs x h u hu => by
  obtain ⟨rfl, _, _⟩ := zn_cells h
  have := one_pairs x
  rw [Array.all_eq_true] at this
  obtain ⟨i, hi, rfl⟩ := List.mem_iff_getElem.1 hu
  have h9 := this i (by simpa using hi)
  rw [List.getElem_toArray] at h9
  exact h9
theorem own_map (A : Option Addr) (n c : Nat) : (Value.slice A n c).ownBlock = A.map (·.block) := by cases A <;> rfl
theorem zeroS (w : World) : (zeroValue 113).run Try.prog w = .ok (.slice none 0 0) w := by kernel_rfl
/-- How the zones of an alternative end. -/
def ZonesR (w : World) (L : Nm) (ts : List Ts) (e : Ending) (w' : World) : Prop :=
  Below w.heap.size w w' ∧ match badT L ts with
    | some (er, att) => e = .panicked [{ v := .iface 89 (.agg #[.int .i64 er, .int .i64 att]), recovered := false }]
    | none => ∃ A c, e = .returned (.slice A (zonesP L ts).length c) ∧ (zonesP L ts).length ≤ c ∧ c ≤ maxLen ∧ Elems tZn w' w'.heap.size A (zonesP L ts)

set_option maxRecDepth 100000 in
set_option maxHeartbeats 8000000 in
theorem zones_any (sb : Nat) (L : Nm) (A : Option Addr) (ts : List Ts) (cap : Nat) (w : World) (B : Nat) (h : Elems tTs w B A ts) (hB : B ≤ w.heap.size) (hS : ScopeAt w sb L) (h1 : L.1.length ≤ 1000000) (h2 : L.2.length ≤ 1000000) (hl : ts.length ≤ 8) :
    Calls Try.prog 37 #[.pointer (some ⟨sb, 0, none⟩), .slice A ts.length cap] w (ZonesR w L ts) := by
  have HH := Lib.hid (And.intro h hS)
  clear h hS
  go_enter Try.func37, Try.ntmps37
  go_upto_region 2 with (first
    | (go_at_call 14; refine (limits_any _).mono ?_; rintro e w1 ⟨rfl, hb⟩; obtain ⟨u, rfl⟩ := ext_of hb; clear hb)
    | (refine list_lit1 rfl _ 42 _ rfl (znV limZ) rfl Try.underlying50 (info_zn rfl) (by decide) (by decide) (zero_zn rfl) ?_))
  refine forget (fun X => Below w.heap.size w X ∧ Elems tZn X X.heap.size (some ⟨(ext w u).heap.size, 0, none⟩) [limZ]) ⟨by (repeat (first | with_reducible exact Below.refl _ _ | with_reducible assumption | with_reducible refine Below.alloc0 ?_ _ | with_reducible refine Below.ext0 ?_ _ | with_reducible refine Below.drew ?_ | with_reducible refine below_drewN ?_ _ | (with_reducible refine Below.setCell (hp := ?hp) ?_ _; case hp => (first | (simp; done) | (simp; omega))))), one_zones (Bk.new _ _ _) limZ_good (by simp)⟩ ?_
  generalize (ext w u).heap.size = g0 at *
  rintro W ⟨hw, hE0⟩
  have HW := Lib.hid (And.intro hw hE0)
  have hws := hw.size
  clear hw hE0
  go_wp2_with fail
  go_loopw [5, 7, 8, 9, 10, 12, 14, 19] (fun o _ _ _ _ _ _ i wr => ∃ (k : Nat) (A5 : Option Addr) (c5 : Nat), k ≤ ts.length ∧ i = .int .i64 k ∧ badT L (ts.take k) = none ∧ o = .slice A5 (zonesP L (ts.take k)).length c5 ∧ Elems tZn wr wr.heap.size A5 (zonesP L (ts.take k)) ∧ (zonesP L (ts.take k)).length ≤ c5 ∧ c5 ≤ maxLen ∧ Below w.heap.size w wr) (fun _ _ _ _ _ _ _ i _ => ts.length - (intOf i).toNat)
  case atStart => exact ⟨0, _, 1, by omega, rfl, rfl, rfl, HW.out.2, Nat.le_refl _, by simp [maxLen], HW.out.1⟩
  case round =>
    obtain ⟨k, A5, c5, hk, rfl, hbad, rfl, hE, hc5, hm5, hw⟩ := hrel
    have hwr := hw.size
    by_cases hlt : k < ts.length
    · obtain ⟨b, off, nm, op, nn, n, att, rfl, hb, Hk, g0', g1, g2, g3, g4, gnm, gnn, f1, f2, f3⟩ := pick_ts (HH.out.1.keep (hw.mono hB) (Nat.le_refl _)) hlt
      have hkl : (k : Int) < (ts.length : Int) := by omega
      have bw : b < wr.heap.size := by omega
      have hbt := badT_take hbad Hk.out
      have hzt := zones_take (L := L) Hk.out
      by_cases h0 : (numP L (nm, op, nn, n, att)).1 = 0
      · obtain ⟨n1, n2, n3, n4, n5⟩ := num_out h0
        obtain ⟨a, ha⟩ : ∃ a, (numP L (nm, op, nn, n, att)).2.1 = a := ⟨_, rfl⟩
        obtain ⟨m, hm⟩ : ∃ m, (numP L (nm, op, nn, n, att)).2.2 = m := ⟨_, rfl⟩
        have hne : numE L (nm, op, nn, n, att) = .returned (.tuple #[.int .i64 a, .int .i64 m]) := by unfold numE; rw [if_pos h0, ha, hm]
        rw [if_pos h0] at hbt
        have hgood := zones_good k hbad
        have hlen : (zonesP L (ts.take k)).length ≤ 256 := Nat.le_trans (zones_len k) (Nat.le_trans (Nat.pow_le_pow_right (by decide) (show k ≤ 8 by omega)) (by decide))
        have hlen2 : (zonesP L (ts.take (k + 1))).length ≤ 512 := Nat.le_trans (zones_len (k + 1)) (Nat.le_trans (Nat.pow_le_pow_right (by decide) (show k + 1 ≤ 9 by omega)) (by decide))
        have hnext : zonesP L (ts.take (k + 1)) = (zonesP L (ts.take k)).flatMap fun z => stepZ z a op m := by
          rw [hzt]; unfold nextZ; rw [ha, hm]
        obtain ⟨zs, hzs⟩ : ∃ z, zonesP L (ts.take k) = z := ⟨_, rfl⟩
        rw [ha] at n1
        rw [hm] at n2 n3
        rw [hzs] at hE hc5 hgood hlen hnext ⊢
        have HO := Lib.hid (And.intro hw (And.intro hne (And.intro hE (And.intro hgood (And.intro hnext (And.intro hbt hlen2))))))
        clear hw hne hE hbt hzt hbad h0 ha hm hgood hnext hlen2 hzs
        go_upto_region 6 with (go_at_call 42; refine (number_any nm op nn n att sb L _ ((HH.out.2.below (HO.out.1)).below (below_self _ _)) h1 h2).mono ?_; rintro e w2 ⟨he, hb2⟩; rw [HO.out.2.1] at he; subst he; have Hb2 := Lib.hid hb2; clear hb2)
        have hb3 : Below wr.heap.size wr w2 := (below_self wr _).trans (Hb2.out.mono (by simp))
        refine forget (fun Y => Below w.heap.size w Y ∧ Elems tZn Y Y.heap.size A5 zs ∧ Bk Y wr.heap.size #[.string nm, .int .i64 op, .string nn, .int .i64 n, .int .i64 att] 64) ⟨Below.trans0 HO.out.1 hb3, HO.out.2.2.1.keep hb3 hb3.size, (Bk.new _ _ _).below Hb2.out⟩ ?_
        clear hb3 Hb2 g0' g1 g2 g3 g4 bw
        generalize wr.heap.size = tv at *
        rintro Y0 ⟨hw, hE, bt⟩
        have ct := bt.cell
        have lt := bt.lt
        have hwy := hw.size
        have HY := Lib.hid (And.intro hw (And.intro hE bt))
        clear hw hE bt
        go_wp2_with fail
        go_loopw [10, 12, 14, 31] (fun v _ _ i wr => ∃ j : Nat, j ≤ zs.length ∧ i = .int .i64 j ∧ OwnL tZn 42 wr Y0.heap.size 0 v ((zs.take j).flatMap fun z => stepZ z a op m) ∧ Below Y0.heap.size Y0 wr) (fun _ _ _ i _ => zs.length - (intOf i).toNat)
        case atStart => exact ⟨0, by omega, rfl, OwnL.nil, Below.refl _ _⟩
        case round =>
          obtain ⟨j, hj, rfl, hown, hbw⟩ := hrel
          obtain ⟨A7, c7, rfl, hc7, hm7⟩ := hown.form
          have hm7' : c7 ≤ 9223372036854775807 := by unfold maxLen at hm7; omega
          have hzq := hbw.size
          have cq := (HY.out.2.2.below hbw).cell
          have lq := (HY.out.2.2.below hbw).lt
          by_cases hlj : j < zs.length
          · obtain ⟨b9, off9, z, rfl, hb9, Hz, hzm, Hzc⟩ := pick_zn (HY.out.2.1.keep hbw hbw.size) hlj
            have hgz := HO.out.2.2.2.1 z hzm
            have hz10 := hgz.1
            obtain ⟨fz1, fz2⟩ := hgz.at n1
            have hjl : (j : Int) < (zs.length : Int) := by omega
            have Hst : Hid ((zs.take (j + 1)).flatMap (fun z => stepZ z a op m) = (zs.take j).flatMap (fun z => stepZ z a op m) ++ stepZ z a op m) := Lib.hid (by rw [List.take_add_one, Hz.out, List.flatMap_append]; simp)
            have hql : ((zs.take j).flatMap fun z => stepZ z a op m).length ≤ 512 := by
              refine Nat.le_trans ?_ HO.out.2.2.2.2.2.2
              rw [HO.out.2.2.2.2.1]
              conv => rhs; rw [← List.take_append_drop j zs]
              rw [List.flatMap_append, List.length_append]
              omega
            obtain ⟨qz, hqz⟩ : ∃ q, (zs.take j).flatMap (fun z => stepZ z a op m) = q := ⟨_, rfl⟩
            rw [hqz] at hown hc7 hql Hst ⊢
            clear hqz
            have HW := Lib.hid (And.intro hown hbw)
            have hol := hown.lt
            clear hown hbw
            go_upto_region 10 with (first
              | (refine list_load_at (o := ⟨some 34, _, _, _, _, _⟩) rfl _ _ rfl b9 (off9 + j * 20) rfl (znV z) _ (fun q u hu => Hzc.out q u hu) Try.underlying42 rfl (by rw [znV_size hz10]; kernel_rfl) ?_)
              | (refine list_store_fresh (o := ⟨none, .store 42 _ _, _, _, _, _⟩) rfl _ _ _ rfl (znV z) rfl rfl (by rw [znV_size hz10]; kernel_rfl) (by rw [znV_size hz10]; rfl) (one_pairs z) ?_))
            simp only [Act.put]
            refine forget (fun X => Bk X wr.heap.size (znV z) 42 ∧ OwnL tZn 42 X Y0.heap.size 0 (.slice A7 qz.length c7) qz ∧ Below Y0.heap.size Y0 X) ⟨Bk.new _ _ _, HW.out.1.below (below_self _ _) (by omega), HW.out.2.alloc hzq _⟩ ?_
            have hnz : ∀ g, (Value.slice A7 qz.length c7).ownBlock = some g → g ≠ wr.heap.size := fun g hg => by have := (hol g hg).2; omega
            have hzb : Y0.heap.size ≤ wr.heap.size := hzq
            clear HW hol cq lq
            generalize wr.heap.size = zb at *
            rintro W3 ⟨bz, hown, hbw⟩
            have hz3 := hbw.size
            have cq := (HY.out.2.2.below hbw).cell
            have lq := (HY.out.2.2.below hbw).lt
            have cz1 : W3.cell? ⟨zb, a * 2, none⟩ = some (.int .i64 (atR z a).1) := (bz.cell _).trans (znV_at (by omega)).1
            have cz2 : W3.cell? ⟨zb, a * 2 + 1, none⟩ = some (.int .i64 (atR z a).2) := (bz.cell _).trans (znV_at (by omega)).2
            have lz := bz.lt
            have ha10 : (a : Int) < 10 := by omega
            have H3 := Lib.hid (And.intro bz (And.intro hown hbw))
            clear bz hown hbw
            refine region_planx W3 [([0, 1, 2, 3, 5, 6, 9], [4, 7, 8])] (Below.refl _ _) (by kernel_rfl) (by kernel_rfl) (fun u => ?_)
            refine plan_take (fun K9 h9 => ?_)
            simp only [List.map_cons, List.map_nil, pickO, List.getD_cons_zero, List.getD_cons_succ]
            repeat (go_big_quiet_step (fail))
            refine wpQuiet_nil (h9 _ ?_)
            clear h9 K9
            refine plan_run (fun K9 h9 => ?_)
            simp only [pickO, List.getD_cons_zero, List.getD_cons_succ]
            go_wp2_with (go_at_call 43; refine (ranges_any _ _ m _ fz1 fz2 ⟨n2, n3⟩).mono ?_; rintro e w9 ⟨mb, rfl, ⟨l, hI, hop⟩, hbb⟩; obtain ⟨gr, hfi, hgr⟩ := hop op n4 n5; have HI := Lib.hid (And.intro hI (And.intro hfi hgr)); clear hI hop hfi hgr; obtain ⟨u, rfl⟩ := ext_more hbb; clear hbb)
            refine h9 _ _ mem_ext ?_
            clear h9 K9
            refine plan_run (fun K9 h9 => ?_)
            simp only [pickO, List.getD_cons_zero, List.getD_cons_succ]
            go_wp2_with (at_lookup; refine list_findI rfl _ _ _ rfl 3 113 Try.underlying114 Try.underlying3 (.slice none 0 0) (zeroS _) rfl HI.out.1 op rfl ?_; rw [HI.out.2.1, Option.getD_some])
            refine h9 _ _ mem_ext ?_
            clear h9 K9
            refine plan_run (fun K9 h9 => ?_)
            simp only [pickO, List.getD_cons_zero, List.getD_cons_succ]
            go_wp2_with fail
            refine h9 _ _ mem_ext ?_
            clear h9 K9
            refine plan_next (plan_end ?_)
            have hcl := cand_len (r := atR z a) (op := op) (n := m)
            have hcf := cand_fits (op := op) ⟨fz1, fz2⟩ ⟨n2, n3⟩
            have hst2 : stepZ z a op m = ((candP (atR z a) op m).filter fun r => decide (r.1 ≤ r.2)).map fun r => z.set a r := rfl
            have Hgr := Lib.hid HI.out.2.2
            change Hid (Bk (ext W3 _) gr (pairsV (candP (atR z a) op m)).toArray 40) at Hgr
            obtain ⟨cs, hcs⟩ : ∃ c, candP (atR z a) op m = c := ⟨_, rfl⟩
            rw [hcs] at hcl hcf hst2 Hgr
            have hcs' : candP ((atR z a).1, (atR z a).2) op m = cs := hcs
            rw [hcs']
            rw [hst2] at Hst
            clear hcs hcs' hst2 HI cz1 cz2 lz
            go_upto_region 11 with (fail)
            refine forget (fun X => Bk X zb (znV z) 42 ∧ OwnL tZn 42 X Y0.heap.size 0 (.slice A7 qz.length c7) qz ∧ Below Y0.heap.size Y0 X ∧ Bk X gr (pairsV cs).toArray 40) ⟨H3.out.1.ext _, H3.out.2.1.below (below_ext _ _) (by omega), H3.out.2.2.trans ((below_ext _ _).mono hz3), Hgr.out⟩ ?_
            clear H3 Hgr cq lq
            rintro W4 ⟨bz, hown, hbw, bg⟩
            have H4 := Lib.hid (And.intro bz (And.intro hown (And.intro hbw bg)))
            clear bz hown hbw bg hz3
            go_loopw [10, 14, 44] (fun v _ i wr => ∃ (q : Nat) (zi : Zn), q ≤ cs.length ∧ i = .int .i64 q ∧ OwnL tZn 42 wr Y0.heap.size 0 v (qz ++ ((cs.take q).filter fun r => decide (r.1 ≤ r.2)).map fun r => z.set a r) ∧ Bk wr zb (znV zi) 42 ∧ GoodZ zi ∧ (∀ r, zi.set a r = z.set a r) ∧ Bk wr gr (pairsV cs).toArray 40 ∧ Below Y0.heap.size Y0 wr ∧ (∀ g, v.ownBlock = some g → g ≠ zb)) (fun _ _ i _ => cs.length - (intOf i).toNat)
            case atStart => exact ⟨0, z, by omega, rfl, by simpa using H4.out.2.1, H4.out.1, hgz, fun _ => rfl, H4.out.2.2.2, H4.out.2.2.1, hnz⟩
            case round =>
              obtain ⟨q, zi, hq, rfl, hown, bz, hgi, hset, bg, hbw, hno⟩ := hrel
              obtain ⟨A9, c9, rfl, hc9, hm9⟩ := hown.form
              have hm9' : c9 ≤ 9223372036854775807 := by unfold maxLen at hm9; omega
              have hzw := hbw.size
              by_cases hlq : q < cs.length
              · obtain ⟨r, hr⟩ : ∃ r, cs[q]? = some r := ⟨_, List.getElem?_eq_getElem hlq⟩
                have hrm : r ∈ cs := List.mem_of_getElem? hr
                obtain ⟨⟨r1, r2⟩, r3, r4⟩ := hcf r hrm
                have hpa := pairsV_at hr
                have cg1 : wr.cell? ⟨gr, q * 2, none⟩ = some (.int .i64 r.1) := (bg.cell _).trans (by simpa using hpa.1)
                have cg2 : wr.cell? ⟨gr, q * 2 + 1, none⟩ = some (.int .i64 r.2) := (bg.cell _).trans (by simpa using hpa.2)
                have lg := bg.lt
                have hql2 : (q : Int) < (cs.length : Int) := by omega
                obtain ⟨qs, hqs⟩ : ∃ l, qz ++ ((cs.take q).filter fun r => decide (r.1 ≤ r.2)).map (fun r => z.set a r) = l := ⟨_, rfl⟩
                have hqsl : qs.length ≤ 514 := by
                  rw [← hqs, List.length_append, List.length_map]
                  have : ((cs.take q).filter fun r => decide (r.1 ≤ r.2)).length ≤ (cs.take q).length := List.length_filter_le _ _
                  rw [List.length_take] at this
                  omega
                have Hnx : Hid (qz ++ ((cs.take (q + 1)).filter fun r => decide (r.1 ≤ r.2)).map (fun r => z.set a r) = qs ++ if r.1 ≤ r.2 then [z.set a r] else []) := Lib.hid (by
                  rw [List.take_add_one, hr, List.filter_append, List.map_append, ← List.append_assoc, hqs]
                  by_cases hle : r.1 ≤ r.2 <;> simp [hle])
                rw [hqs] at hown hc9 hno ⊢
                clear hqs hpa hr
                have HX := Lib.hid (And.intro hown (And.intro bz (And.intro hgi (And.intro hset (And.intro bg (And.intro hbw hno))))))
                have hol := hown.lt
                clear hown bz hgi hset bg hbw hno
                by_cases hle : r.1 ≤ r.2
                · rw [if_pos hle] at Hnx
                  have fz := HX.out.2.1.free
                  have lz := HX.out.2.1.lt
                  have hz9 : zi.length = 10 := HX.out.2.2.1.1
                  have cz1 : wr.cell? ⟨zb, a * 2, none⟩ = some (.int .i64 (atR zi a).1) := (HX.out.2.1.cell _).trans (znV_at (by omega)).1
                  have cz2 : wr.cell? ⟨zb, a * 2 + 1, none⟩ = some (.int .i64 (atR zi a).2) := (HX.out.2.1.cell _).trans (znV_at (by omega)).2
                  obtain ⟨z2, hz2⟩ : ∃ z2, z.set a r = z2 := ⟨_, rfl⟩
                  have he2 : zi.set a r = z2 := (HX.out.2.2.2.1 r).trans hz2
                  rw [hz2] at Hnx
                  have hg2 : GoodZ z2 := he2 ▸ HX.out.2.2.1.set a ⟨⟨r1, r2⟩, r3, r4⟩
                  have hset2 : ∀ r9, z2.set a r9 = z.set a r9 := fun r9 => by rw [← hz2, List.set_set]
                  go_upto_region 15 with (fail)
                  have ho : Only (fun g => g = zb) wr ((wr.setCell ⟨zb, a * 2, none⟩ (.int .i64 r.1)).setCell ⟨zb, a * 2 + 1, none⟩ (.int .i64 r.2)) := ((Only.refl (fun g => g = zb) _).set_ (p := ⟨zb, a * 2, none⟩) (.inl rfl) _).set_ (p := ⟨zb, a * 2 + 1, none⟩) (.inl rfl) _
                  refine forget (fun X => Bk X zb (znV z2) 42 ∧ OwnL tZn 42 X Y0.heap.size 0 (.slice A9 qs.length c9) qs ∧ Bk X gr (pairsV cs).toArray 40 ∧ Below Y0.heap.size Y0 X) ⟨?_, (HX.out.1.only ho (fun g hg => by omega) (by omega) (fun g hg h => HX.out.2.2.2.2.2.2 g hg h)).below (below_self _ _) (by omega), (HX.out.2.2.2.2.1.only ho (fun h => (bk_ne HX.out.2.2.2.2.1 HX.out.2.1 (by decide)) h)).alloc _, (HX.out.2.2.2.2.2.1.trans (ho.to_below (B := Y0.heap.size) (fun g hg => by omega) (by omega))).alloc (Nat.le_trans hzw ho.size) _⟩ ?_
                  · have h9 := (HX.out.2.1.set_ (a * 2) (.int .i64 r.1)).set_ (a * 2 + 1) (.int .i64 r.2)
                    rw [znV_set (by omega) r, he2] at h9
                    exact h9.alloc _
                  have hno2 := HX.out.2.2.2.2.2.2
                  clear ho HX fz lz cz1 cz2 he2 hz9 cg1 cg2 lg hol hz2
                  rintro W5 ⟨bz, hown, bg, hbw⟩
                  have hz5 := hbw.size
                  have H5 := Lib.hid (And.intro bz (And.intro hown (And.intro bg (And.intro hbw hno2))))
                  have lz := bz.lt
                  clear bz hown bg hbw hno2
                  go_wp2_with (first
                    | (refine list_load_at (o := ⟨some 57, _, _, _, _, _⟩) rfl _ _ rfl zb 0 rfl (znV z2) _ (fun j u h => by rw [Nat.zero_add, H5.out.1.cell]; exact h) Try.underlying42 rfl (by rw [znV_size hg2.1]; kernel_rfl) ?_)
                    | (refine list_lit1 rfl _ 42 _ rfl (znV z2) rfl Try.underlying50 (info_zn hg2.1) (by rw [znV_size hg2.1]; decide) (by rw [znV_size hg2.1]; decide) (zero_zn hg2.1) ?_)
                    | (at_builtin; refine list_appendL (T := tZn) (base := Y0.heap.size) (B := 0) (qs := qs) (v := .slice A9 qs.length c9) rfl _ _ _ rfl 160 Try.underlying50 (by kernel_rfl) (by decide) one_zn rfl (H5.out.2.1.below (below_self _ _) (by omega)) (some ⟨W5.heap.size, 0, none⟩) 1 1 [z2] [pairsV z2] rfl rfl rfl (fun i a1 a2 => by obtain rfl : i = 0 := (by simp at a1; omega); exact zn_rd _ _ hg2.1 hg2.2) (by have := lies_bk (Bk.new W5 (znV z2) 42) 1; simpa [znV] using this) (by unfold maxLen; omega) (by omega) (by simp; omega) (by omega) ?_; intro A8 c8 w8 hown8 hbel8 hg8 hd8; have H8 := Lib.hid (And.intro hown8 (And.intro hbel8 (And.intro hg8 hd8))); clear hown8 hbel8 hg8 hd8))
                  go_roundw
                  case rel =>
                    refine ⟨q + 1, z2, by omega, by go_num, by rw [Hnx.out]; exact H8.out.1, grown_bk H8.out.2.2.1 (H5.out.1.alloc _) (fun e => H5.out.2.2.2.2 zb e.symm rfl), hg2, hset2, grown_bk H8.out.2.2.1 (H5.out.2.2.1.alloc _) (other_zn H5.out.2.1 H5.out.2.2.1 (by decide)), (H5.out.2.2.2.1.alloc hz5 _).trans H8.out.2.1, fun g hg => ?_⟩
                    rw [own_map] at hg
                    rcases H8.out.2.2.2 with h | h
                    · exact H5.out.2.2.2.2 g (h.symm.trans hg)
                    · rw [hg] at h
                      simp at h
                      omega
                  case measure => simp [intOf]; omega
                · rw [if_neg hle, List.append_nil] at Hnx
                  go_wp2_with fail
                  go_roundw
                  case rel => exact ⟨q + 1, zi, by omega, by go_num, by rw [Hnx.out]; exact HX.out.1.below (below_self _ _) (by omega), HX.out.2.1.alloc _, HX.out.2.2.1, HX.out.2.2.2.1, HX.out.2.2.2.2.1.alloc _, HX.out.2.2.2.2.2.1.alloc hzw _, HX.out.2.2.2.2.2.2⟩
                  case measure => simp [intOf]; omega
              · obtain rfl : q = cs.length := by omega
                rw [List.take_length] at hown hc9 ⊢
                obtain ⟨qs, hqs⟩ : ∃ l, qz ++ (cs.filter fun r => decide (r.1 ≤ r.2)).map (fun r => z.set a r) = l := ⟨_, rfl⟩
                rw [hqs] at hown hc9 Hst ⊢
                have HX := Lib.hid (And.intro hown hbw)
                clear hqs hown bz hgi hset bg hbw hno
                go_wp2_with fail
                go_roundw
                case rel => exact ⟨j + 1, by omega, by go_num, by rw [Hst.out]; exact HX.out.1, HX.out.2⟩
                case measure => simp [intOf]; omega
          · obtain rfl : j = zs.length := by omega
            rw [List.take_length] at hown hc7 ⊢
            rw [← HO.out.2.2.2.2.1] at hown hc7 ⊢
            have HX := Lib.hid (And.intro hown (And.intro hc7 (And.intro hm7 hbw)))
            clear hown hc7 hm7 hbw cq lq
            go_wp2_with fail
            go_roundw
            case rel => exact ⟨k + 1, A7, c7, by omega, by go_num, HO.out.2.2.2.2.2.1, rfl, HX.out.1.elems (by omega) (Nat.le_refl _), HX.out.2.1, HX.out.2.2.1, HY.out.1.trans (HX.out.2.2.2.mono hwy)⟩
            case measure => simp [intOf]; omega
      · have hne : numE L (nm, op, nn, n, att) = .panicked [{ v := .iface 89 (.agg #[.int .i64 (numP L (nm, op, nn, n, att)).1, .int .i64 att]), recovered := false }] := by unfold numE; rw [if_neg h0]
        rw [if_neg h0] at hbt
        have hst := badT_stop hbt
        have HO := Lib.hid (And.intro hw (And.intro hne hst))
        clear hw hne hst hbt hzt hE hbad h0
        as_aux_lemma =>
        go_wp2_with (go_at_call 42; refine (number_any nm op nn n att sb L _ ((HH.out.2.below (HO.out.1)).below (below_self _ _)) h1 h2).mono ?_; rintro e w2 ⟨he, hb2⟩; rw [HO.out.2.1] at he; subst he)
        refine ⟨rfl, Below.trans0 (Below.alloc0 HO.out.1 _) hb2, ?_⟩
        rw [HO.out.2.2]
    · obtain rfl : k = ts.length := by omega
      rw [List.take_length] at hbad hE hc5 ⊢
      have HO := Lib.hid (And.intro hw (And.intro hE (And.intro hbad (And.intro hc5 hm5))))
      clear hw hE hbad hc5 hm5
      as_aux_lemma =>
      go_wp2_with fail
      go_ret
      refine ⟨HO.out.1, ?_⟩
      rw [HO.out.2.2.1]
      exact ⟨A5, c5, rfl, HO.out.2.2.2.1, HO.out.2.2.2.2, HO.out.2.1⟩
end Go.Proofs.Ytecjhniomjmocaa
