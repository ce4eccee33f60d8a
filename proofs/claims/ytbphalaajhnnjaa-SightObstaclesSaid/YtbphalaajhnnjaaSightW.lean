/- SightObstacles: a pillar more makes the view the same or one worse, a greater height not better, a pillar of another level no other, for every arguments; no condition. -/
import Derived.Test.YtbphalaajhnnjaaSightX
import Derived.Test.YtbphalaajhnnjaaPlanI
import Derived.Deep.DeepCutAuto
import Derived.Deep.RegionHeld3
namespace Go.Proofs.Ytbphalaajhnnjaa
open Go.RowKit Go.ChangeAt
set_option linter.unusedVariables false
attribute [local go_sem] ext_cell ext_frozen lt_ext ext_drew

/-- What the walk knows of its world all along. -/
structure St (w : World) (nm : ByteArray) (sx sy : Int) (LA : Option Addr) (n lc : Nat) (px py x y x2 y2 : Int) (W : World) : Prop where
  below : Below w.heap.size w W
  hall : Bk W w.heap.size #[.string nm, .int .i64 sx, .int .i64 sy, .slice LA n lc] 28
  pt : Bk W (w.heap.size + 1) #[.int .i64 px, .int .i64 py] 23
  box : Bk W (w.heap.size + 2) #[.int .i64 x, .int .i64 y, .int .i64 x2, .int .i64 y2] 25

section
variable {w W W' : World} {nm : ByteArray} {sx sy : Int} {LA : Option Addr} {n lc : Nat} {px py x y x2 y2 : Int}
theorem St.go (h : St w nm sx sy LA n lc px py x y x2 y2 W) (hb : Below W.heap.size W W') : St w nm sx sy LA n lc px py x y x2 y2 W' :=
  ⟨h.below.trans (hb.mono h.below.size), h.hall.below hb, h.pt.below hb, h.box.below hb⟩
theorem St.lt (h : St w nm sx sy LA n lc px py x y x2 y2 W) : w.heap.size + 2 < W.heap.size := h.box.lt
theorem St.far (h : St w nm sx sy LA n lc px py x y x2 y2 W) {p : Addr} (hp : w.heap.size + 2 < p.block) (v : Value) : St w nm sx sy LA n lc px py x y x2 y2 (W.setCell p v) :=
  ⟨h.below.setCell (by omega) _, h.hall.far (by omega) _, h.pt.far (by omega) _, h.box.far (by omega) _⟩
theorem St.start (w : World) (nm : ByteArray) (sx sy : Int) (LA : Option Addr) (n lc : Nat) (px py x y x2 y2 : Int) : St w nm sx sy LA n lc px py x y x2 y2
    (((w.alloc (.cells #[.string nm, .int .i64 sx, .int .i64 sy, .slice LA n lc] 28)).alloc (.cells #[.int .i64 px, .int .i64 py] 23)).alloc (.cells #[.int .i64 x, .int .i64 y, .int .i64 x2, .int .i64 y2] 25)) :=
  ⟨(((Below.refl _ w).alloc (by simp) _).alloc (by simp) _).alloc (by simp; omega) _, ((Bk.new _ _ _).alloc _).alloc _,
    by have h := Bk.new (w.alloc (.cells #[.string nm, .int .i64 sx, .int .i64 sy, .slice LA n lc] 28)) #[.int .i64 px, .int .i64 py] 23
       have e : (w.alloc (.cells #[.string nm, .int .i64 sx, .int .i64 sy, .slice LA n lc] 28)).heap.size = w.heap.size + 1 := by simp
       rw [e] at h
       exact h.alloc _,
    by have h := Bk.new ((w.alloc (.cells #[.string nm, .int .i64 sx, .int .i64 sy, .slice LA n lc] 28)).alloc (.cells #[.int .i64 px, .int .i64 py] 23)) #[.int .i64 x, .int .i64 y, .int .i64 x2, .int .i64 y2] 25
       have e : ((w.alloc (.cells #[.string nm, .int .i64 sx, .int .i64 sy, .slice LA n lc] 28)).alloc (.cells #[.int .i64 px, .int .i64 py] 23)).heap.size = w.heap.size + 2 := by simp
       rw [e] at h
       exact h⟩
end

theorem infoLevel : (Try.prog.info? 51).map (fun i => (i.size, i.bytes, i.zero.map fun z => z.cells.size)) = some (8, 152, some 8) := by kernel_rfl
theorem infoBox : (Try.prog.info? 25).map (fun i => (i.size, i.bytes, i.zero.map fun z => z.cells.size)) = some (4, 32, some 4) := by kernel_rfl
theorem one_box (w : World) (B : Nat) (cs : List Value) (b : Bx) (h : tBox.rd w B cs b) : ∀ u ∈ cs, u.oneCell' = true := by
  obtain ⟨c1, r1, rfl, ⟨rfl, _⟩, c2, r2, rfl, ⟨rfl, _⟩, c3, r3, rfl, ⟨rfl, _⟩, rfl, _⟩ := h
  simp [Value.oneCell']
theorem one_level (w : World) (B : Nat) (cs : List Value) (l : Lv) (h : tLevel.rd w B cs l) : ∀ u ∈ cs, u.oneCell' = true := by
  obtain ⟨c1, r1, rfl, ⟨rfl, _⟩, c2, r2, rfl, ⟨rfl, _⟩, c3, r3, rfl, rfl, c4, r4, rfl, rfl, c5, r5, rfl, rfl, c6, r6, rfl, ⟨PA, pc, rfl, _⟩, c7, r7, rfl, rfl, rfl, _⟩ := h
  simp [Value.oneCell']

theorem own_far {X : World} {base n c m g : Nat} {e : TypeId} {xs : List Value} (h : X.ownsRow base e n (.slice (some ⟨g, 0, none⟩) m c) m xs) {p : Addr} (hp : g ≠ p.block) (v : Value) : (X.setCell p v).ownsRow base e n (.slice (some ⟨g, 0, none⟩) m c) m xs := by
  obtain ⟨k0, ⟨e1, hz⟩ | ⟨g', cap, cur, e1, k1, k2, k3, k4, k5, k6⟩⟩ := h
  · cases e1
  injection e1 with e2 e3 e4
  injection e2 with e2
  injection e2 with e2
  subst e2
  subst e4
  exact ⟨k0, .inr ⟨g, c, cur, rfl, k1, Bk.far k2 hp v, k3, k4, k5, k6⟩⟩
/-- What lies in a cell (not looked into). -/
def atCell (W : World) (a : Addr) : Value := (W.cell? a).getD undef
theorem cell_at {W : World} {a : Addr} (h : (W.cell? a).isSome = true) : W.cell? a = some (atCell W a) := by
  obtain ⟨u, hu⟩ := Option.isSome_iff_exists.1 h
  unfold atCell
  rw [hu]
  rfl
theorem below_size {B : Nat} {w w' : World} (h : Below B w w') : w.heap.size ≤ w'.heap.size := h.size
theorem cell_some {W : World} {a : Addr} {u : Value} (h : W.cell? a = some u) : (W.cell? a).isSome = true := by rw [h]; rfl
theorem frz {w : World} {o : Obj} {g k : Nat} (h : w.frozen? ⟨g, k, none⟩ = false) (hg : g < w.heap.size) : (w.alloc o).frozen? ⟨g, k, none⟩ = false := (World.frozen?_alloc_past o g k hg).trans h
theorem frz_drew {w : World} {g k : Nat} (h : w.frozen? ⟨g, k, none⟩ = false) : w.drew.frozen? ⟨g, k, none⟩ = false := h

theorem few_le {ls : List Lv} (h : fewB ls 40 100 = true) : ∀ l ∈ ls, l.2.2.2.2.2.1.length ≤ 100 := by
  unfold fewB at h
  simp only [Bool.and_eq_true, List.all_eq_true, decide_eq_true_eq] at h
  exact fun l hl => by have := h.1 l hl; omega

theorem viewZ_ge (h : Hl) (i : Int) (p : Pt) : 0 ≤ viewZ h i p := by
  unfold viewZ
  split
  · omega
  · split
    · omega
    · unfold viewB; split <;> omega
theorem viewZ_le (h : Hl) (i : Int) (p : Pt) : viewZ h i p ≤ 3 := by
  unfold viewZ
  split
  · omega
  · split
    · omega
    · unfold viewB; split <;> omega

theorem view_n (r : Int) (nm : ByteArray) (sx sy : Int) (LA : Option Addr) (ls : List Lv) (n lc : Nat) (hn : ls.length = n) (level px py : Int) (w : World) (B : Nat) (hls : Elems tLevel w B LA ls) (hB : B ≤ w.heap.size) (hl : n ≤ 9223372036854775807)
    (hsx : fits sx) (hsy : fits sy) (hpx : fits px) (hpy : fits py) (hfew : Hid (fewL ls)) (hr : Hid (viewZ (nm, (sx, sy), ls) level (px, py) = r)) :
    Calls Try.prog 13 #[.agg #[.string nm, .int .i64 sx, .int .i64 sy, .slice LA n lc], .int .i64 level, .agg #[.int .i64 px, .int .i64 py]] w
      fun e w' => e = .returned (.int .i64 r) ∧ Below w.heap.size w w' := by
  subst hn
  exact view_any r nm sx sy LA ls lc level px py w B hls hB hl hsx hsy hpx hpy hfew hr
theorem few_set {ls : List Lv} {i : Nat} {l : Lv} (h : fewL ls) (hl : l.2.2.2.2.2.1.length ≤ 1000) : fewL (ls.set i l) := fun x hx => by
  rcases List.mem_or_eq_of_mem_set hx with h1 | h1
  · exact h x h1
  · subst h1; exact hl

set_option maxRecDepth 100000 in
set_option maxHeartbeats 8000000 in
theorem obstacles_walk (raw px py x y x2 y2 sx sy ht : Int) (nm : ByteArray) (LA : Option Addr) (ls : List Lv) (lc : Nat) (w : World) (hls : Elems tLevel w w.heap.size LA ls) (hl : ls.length ≤ 9223372036854775807)
    (hz : Hid (∀ z ∈ [px, py, sx, sy, x, y, x2, y2], fits z)) (hraw : 0 ≤ raw ∧ raw ≤ 255) (hht : 0 ≤ ht ∧ ht ≤ 65535) :
    Calls Try.prog 8 #[.agg #[.string nm, .int .i64 sx, .int .i64 sy, .slice LA ls.length lc], .int .u8 raw, .agg #[.int .i64 px, .int .i64 py], .agg #[.int .i64 x, .int .i64 y, .int .i64 x2, .int .i64 y2], .int .u16 ht] w
      fun e w' => e = .returned (.bool true) ∧ Below w.heap.size w w' := by
  obtain ⟨r, hr⟩ : ∃ r, fewB ls 40 100 = r := ⟨_, rfl⟩
  have Hr := Lib.hid hr
  clear hr
  have HS := Lib.hid (St.start w nm sx sy LA ls.length lc px py x y x2 y2)
  have HL := Lib.hid hls
  clear hls
  go_enter Try.func8, Try.ntmps8
  go_wp2_with fail
  refine (head_any _).mono ?_
  rintro e w1 ⟨rfl, hb⟩
  have S1 := HS.out.go hb
  clear hb HS
  have H1 := Lib.hid S1
  have c1 := S1.hall.cell
  clear S1
  go_wp2_with fail
  refine (few_is r nm sx sy LA ls lc 40 100 _ w.heap.size (HL.out.keep H1.out.below (Nat.le_refl _)) H1.out.below.size hl Hr).mono ?_
  rintro e w2 ⟨rfl, hb⟩
  have H2 := Lib.hid (H1.out.go hb)
  clear hb H1 c1
  have c2 := H2.out.hall.cell
  cases r
  · go_wp2_with fail
    go_ret
    exact ⟨rfl, H2.out.below⟩
  · cases ls with
    | nil =>
      go_wp2_with fail
      go_ret
      exact ⟨rfl, H2.out.below⟩
    | cons l0 ls' =>
      have hpos : 0 < ((l0 :: ls').length : Int) := by simp only [List.length_cons]; omega
      have h40 : (l0 :: ls').length ≤ 40 := (fewL_of Hr.out).2
      generalize l0 :: ls' = ls at *
      obtain ⟨i, hi⟩ : ∃ i : Nat, raw % ls.length = i := ⟨(raw % ls.length).toNat, by rw [Int.toNat_of_nonneg (Int.emod_nonneg _ (by omega))]⟩
      have hi1 : (i : Int) < ls.length := by rw [← hi]; exact Int.emod_lt_of_pos _ hpos
      have c3 := H2.out.pt.cell
      go_wp2_with fail
      obtain ⟨v, hv⟩ : ∃ v, viewZ (nm, (sx, sy), ls) i (px, py) = v := ⟨_, rfl⟩
      have hv0 := viewZ_ge (nm, (sx, sy), ls) i (px, py)
      have hv3 := viewZ_le (nm, (sx, sy), ls) i (px, py)
      rw [hv] at hv0 hv3
      have Hv := Lib.hid hv
      clear hv
      refine (view_any v nm sx sy LA ls lc i px py w2 w.heap.size (HL.out.keep H2.out.below (Nat.le_refl _)) H2.out.below.size hl (hz.out sx (by simp)) (hz.out sy (by simp)) (hz.out px (by simp)) (hz.out py (by simp)) (fewL_of Hr.out).1 Hv).mono ?_
      rintro e w3 ⟨rfl, hb⟩
      have H3 := Lib.hid (H2.out.go hb)
      clear hb H2 c2 c3
      have c2 := H3.out.hall.cell
      have c3 := H3.out.pt.cell
      have c4 := H3.out.box.cell
      have l3 := H3.out.lt
      go_upto_region 9 with (fail)
      obtain ⟨css, f1, f2, f3, f4, f5⟩ := HL.out.flat
      have f6 := one_flat (one_level _ _) f1 f2
      obtain ⟨il, zl, i1, i2, i3, i4, i5⟩ := info_of infoLevel
      refine forget (fun W => St w nm sx sy LA ls.length lc px py x y x2 y2 W ∧ Bk W w3.heap.size #[.string nm, .int .i64 sx, .int .i64 sy, .slice LA ls.length lc] 28) ⟨H3.out.go ?_, ?_⟩ ?_
      · exact (Below.refl _ _).alloc (Nat.le_refl _) _
      · exact Bk.new _ _ _
      · have l4 := H3.out.below.size
        clear H3 c2 c3 c4
        generalize w3.heap.size = h1 at *
        rintro w4 ⟨S4, b1k⟩
        have H4 := Lib.hid S4
        have c2 := S4.hall.cell
        have c3 := S4.pt.cell
        have c4 := S4.box.cell
        have c5 := b1k.cell
        have f7 := b1k.free
        have l5 := b1k.lt
        have l6 := S4.hall.lt
        have l7 := S4.pt.lt
        have l8 := S4.box.lt
        clear S4
        go_wp2_with (at_builtin; go_loud (refine list_append rfl _ _ _ rfl w4.heap.size _ il zl 8 152 Try.underlying26 i1 i2 i3 i4 i5 (by decide) 0 [] rfl (own_start w4 w4.heap.size _ 8 (Nat.le_refl _)) LA ls.length lc css.flatten rfl f4 ?_ f6 ?_ ?_ ?_ ls.length css.flatten ?_ rfl ?_))
        · exact lies_of f5 (H4.out.below.alloc H4.out.below.size _)
        · unfold maxLen; omega
        · omega
        · simp
        · simp
        intro A1 k1 w5 own1 hb1 _
        obtain ⟨g1, cur, rfl, o1, o2, o3, o4, o5, o6, o7⟩ := own_block own1 (by omega)
        have hb2 : Below w4.heap.size w4 w5 := ((Below.refl _ w4).alloc (Nat.le_refl _) _).trans hb1
        have H5 := Lib.hid (H4.out.go hb2)
        replace b1k := b1k.below hb2
        clear H4 c2 c3 c4 c5 f7 hb1 hb2 o3 o6 o7
        have c5 := b1k.cell
        have f7 := b1k.free
        go_upto_region 10 with (fail)
        refine forget (fun W => St w nm sx sy LA ls.length lc px py x y x2 y2 W ∧ Bk W h1 #[.string nm, .int .i64 sx, .int .i64 sy, .slice (some ⟨g1, 0, none⟩) ls.length k1] 28 ∧ W.ownsRow w4.heap.size 51 8 (.slice (some ⟨g1, 0, none⟩) ls.length k1) ls.length css.flatten) ⟨?_, ?_, ?_⟩ ?_
        · exact H5.out.far (by simp; omega) _
        · exact b1k.set_ 3 _
        · exact own_far own1 (by show g1 ≠ h1; omega) _
        · clear H5 c5 f7 b1k own1
          rintro w6 ⟨S6, b1k, own6⟩
          obtain ⟨cur, b2k, o6⟩ := own_at own6
          have H6o := Lib.hid own6
          clear own6
          obtain ⟨b, off, nm', lh, la, q1, q2, q3, q4, PA, pc, ps, rfl, hbB, Hx, ⟨t0, t1, t2, t3, t4, t5, t6, t7⟩, hlh, hla, hnm, hpc, hpm, hps⟩ := pick_level HL.out (k := i) (by omega)
          have hp100 : ps.length ≤ 100 := by
            have h := few_le Hr.out _ (List.mem_of_getElem? Hx.out)
            exact h
          obtain ⟨pss, p1, p2, p3, p4, p5⟩ := hps.flat
          have p6 := one_flat (one_box _ _) p1 p2
          obtain ⟨ib, zb, j1, j2, j3, j4, j5⟩ := info_of infoBox
          have H6 := Lib.hid S6
          have d1 := S6.hall.cell 3
          have d2 := S6.box.cell
          have d3 := (S6.below.cell (p := ⟨b, off + i * 8 + 5, none⟩) hbB).trans t5
          have d4 := b1k.cell 3
          have d20 := d2 0
          have d21 := d2 1
          have d22 := d2 2
          have d23 := d2 3
          have l9 := S6.box.lt
          have l10 := b1k.lt
          have l11 := b2k.lt
          clear S6 d2
          simp only [List.getElem?_toArray, List.getElem?_cons_succ, List.getElem?_cons_zero] at d1 d4 d20 d21 d22 d23
          have d5 : (w6.cell? ⟨g1, i * 8 + 5, none⟩).isSome = true := by
            have h := b2k.cell (i * 8 + 5)
            rw [h, Array.getElem?_eq_getElem (by omega)]
            rfl
          have d6 := b2k.free (i * 8 + 5)
          have n1 : g1 ≠ h1 := by omega
          have n2 : g1 ≠ w.heap.size := by omega
          have n3 : g1 ≠ w.heap.size + 2 := by omega
          have n4 : g1 ≠ b := by omega
          have l12 : b < w6.heap.size := by omega
          have l13 : w.heap.size < w6.heap.size := by omega
          have HSC : Hid (∀ (W' : World) (v' : Value), (W'.cell? ⟨h1, 3, none⟩ = some (.slice (some ⟨g1, 0, none⟩) ls.length k1) ∧ W'.cell? ⟨w.heap.size, 3, none⟩ = some (.slice (some ⟨b, off, none⟩) ls.length lc) ∧ W'.cell? ⟨b, off + i * 8 + 5, none⟩ = some (.slice PA ps.length pc) ∧
              W'.cell? ⟨w.heap.size + 2, 0, none⟩ = some (.int .i64 x) ∧ W'.cell? ⟨w.heap.size + 2, 1, none⟩ = some (.int .i64 y) ∧ W'.cell? ⟨w.heap.size + 2, 2, none⟩ = some (.int .i64 x2) ∧ W'.cell? ⟨w.heap.size + 2, 3, none⟩ = some (.int .i64 y2) ∧ W'.cell? ⟨g1, i * 8 + 5, none⟩ = some (atCell W' ⟨g1, i * 8 + 5, none⟩) ∧ W'.frozen? ⟨g1, i * 8 + 5, none⟩ = false) → ((W'.setCell ⟨g1, i * 8 + 5, none⟩ v').cell? ⟨h1, 3, none⟩ = some (.slice (some ⟨g1, 0, none⟩) ls.length k1) ∧ (W'.setCell ⟨g1, i * 8 + 5, none⟩ v').cell? ⟨w.heap.size, 3, none⟩ = some (.slice (some ⟨b, off, none⟩) ls.length lc) ∧ (W'.setCell ⟨g1, i * 8 + 5, none⟩ v').cell? ⟨b, off + i * 8 + 5, none⟩ = some (.slice PA ps.length pc) ∧
              (W'.setCell ⟨g1, i * 8 + 5, none⟩ v').cell? ⟨w.heap.size + 2, 0, none⟩ = some (.int .i64 x) ∧ (W'.setCell ⟨g1, i * 8 + 5, none⟩ v').cell? ⟨w.heap.size + 2, 1, none⟩ = some (.int .i64 y) ∧ (W'.setCell ⟨g1, i * 8 + 5, none⟩ v').cell? ⟨w.heap.size + 2, 2, none⟩ = some (.int .i64 x2) ∧ (W'.setCell ⟨g1, i * 8 + 5, none⟩ v').cell? ⟨w.heap.size + 2, 3, none⟩ = some (.int .i64 y2) ∧ (W'.setCell ⟨g1, i * 8 + 5, none⟩ v').cell? ⟨g1, i * 8 + 5, none⟩ = some (atCell (W'.setCell ⟨g1, i * 8 + 5, none⟩ v') ⟨g1, i * 8 + 5, none⟩) ∧ (W'.setCell ⟨g1, i * 8 + 5, none⟩ v').frozen? ⟨g1, i * 8 + 5, none⟩ = false)) := Lib.hid fun W' v' ⟨e1, e2, e3, e4, e5, e6, e7, e8, e9⟩ =>
            ⟨(World.cell?_setCell_far _ _ _ _ n1).trans e1, (World.cell?_setCell_far _ _ _ _ n2).trans e2, (World.cell?_setCell_far _ _ _ _ n4).trans e3, (World.cell?_setCell_far _ _ _ _ n3).trans e4, (World.cell?_setCell_far _ _ _ _ n3).trans e5, (World.cell?_setCell_far _ _ _ _ n3).trans e6, (World.cell?_setCell_far _ _ _ _ n3).trans e7,
              cell_at (cell_some (World.cell?_setCell_same' _ _ _ (cell_some e8))), by simpa using e9⟩
          have HSS : Hid (∀ W', Below w6.heap.size w6 W' → (W'.cell? ⟨h1, 3, none⟩ = some (.slice (some ⟨g1, 0, none⟩) ls.length k1) ∧ W'.cell? ⟨w.heap.size, 3, none⟩ = some (.slice (some ⟨b, off, none⟩) ls.length lc) ∧ W'.cell? ⟨b, off + i * 8 + 5, none⟩ = some (.slice PA ps.length pc) ∧
              W'.cell? ⟨w.heap.size + 2, 0, none⟩ = some (.int .i64 x) ∧ W'.cell? ⟨w.heap.size + 2, 1, none⟩ = some (.int .i64 y) ∧ W'.cell? ⟨w.heap.size + 2, 2, none⟩ = some (.int .i64 x2) ∧ W'.cell? ⟨w.heap.size + 2, 3, none⟩ = some (.int .i64 y2) ∧ W'.cell? ⟨g1, i * 8 + 5, none⟩ = some (atCell W' ⟨g1, i * 8 + 5, none⟩) ∧ W'.frozen? ⟨g1, i * 8 + 5, none⟩ = false)) := Lib.hid fun W' hB =>
            ⟨(hB.cell (by simp; omega)).trans d4, (hB.cell (by simp; omega)).trans d1, (hB.cell (by simp; omega)).trans d3, (hB.cell (by simp; omega)).trans d20, (hB.cell (by simp; omega)).trans d21, (hB.cell (by simp; omega)).trans d22, (hB.cell (by simp; omega)).trans d23,
              cell_at (by rw [hB.cell (by simp; omega)]; exact d5), by rw [hB.frozen (by simp; omega)]; exact d6⟩
          have hl6 : w.heap.size ≤ w6.heap.size := H6.out.below.size
          have hf2 : Hid (∀ i (h1 : i < ls.length) (h2 : i < css.length), tLevel.rd w6 w.heap.size css[i] ls[i]) := Lib.hid fun i a b => tLevel.keep H6.out.below (Nat.le_refl _) (f2 i a b)
          have hp2 : Hid (∀ i (h1 : i < ps.length) (h2 : i < pss.length), tBox.rd w6 w.heap.size pss[i] ps[i]) := Lib.hid fun i a b => tBox.keep H6.out.below (Nat.le_refl _) (p2 i a b)
          go_cut [] (fun X' => St w nm sx sy (some ⟨b, off, none⟩) ls.length lc px py x y x2 y2 X' ∧ Bk X' h1 #[.string nm, .int .i64 sx, .int .i64 sy, .slice (some ⟨g1, 0, none⟩) ls.length k1] 28 ∧ Elems tLevel X' X'.heap.size (some ⟨g1, 0, none⟩) (ls.set i (nm', lh, q1, q2, q3, ps ++ [(x, y, x2, y2)], q4, la)))
          case first =>
           go_region_held3 (fun W' => W'.cell? ⟨h1, 3, none⟩ = some (.slice (some ⟨g1, 0, none⟩) ls.length k1) ∧ W'.cell? ⟨w.heap.size, 3, none⟩ = some (.slice (some ⟨b, off, none⟩) ls.length lc) ∧ W'.cell? ⟨b, off + i * 8 + 5, none⟩ = some (.slice PA ps.length pc) ∧
              W'.cell? ⟨w.heap.size + 2, 0, none⟩ = some (.int .i64 x) ∧ W'.cell? ⟨w.heap.size + 2, 1, none⟩ = some (.int .i64 y) ∧ W'.cell? ⟨w.heap.size + 2, 2, none⟩ = some (.int .i64 x2) ∧ W'.cell? ⟨w.heap.size + 2, 3, none⟩ = some (.int .i64 y2) ∧ W'.cell? ⟨g1, i * 8 + 5, none⟩ = some (atCell W' ⟨g1, i * 8 + 5, none⟩) ∧ W'.frozen? ⟨g1, i * 8 + 5, none⟩ = false)
            (first
              | (apply HSC.out; apply HSS.out; (repeat (first | with_reducible exact Below.refl _ _ | with_reducible assumption | with_reducible refine Below.drew ?_ | with_reducible refine Below.alloc ?_ ?_ _ | with_reducible refine Below.trans ?_ hbel8 | with_reducible refine Below.trans ?_ hbel7 | (show (_ : Nat) ≤ _; first | omega | (simp; all_goals fail) | (have h := hbel7.size; simp at h ⊢; omega)))); all_goals fail)
              | (apply HSS.out; (repeat (first | with_reducible exact Below.refl _ _ | with_reducible assumption | with_reducible refine Below.drew ?_ | with_reducible refine Below.alloc ?_ ?_ _ | with_reducible refine Below.trans ?_ hbel8 | with_reducible refine Below.trans ?_ hbel7 | (show (_ : Nat) ≤ _; first | omega | (simp; all_goals fail) | (have h := hbel7.size; simp at h ⊢; omega)))); all_goals fail)
              | (refine ⟨?_, ?_, ?_, ?_, ?_, ?_, ?_, ?_, ?_⟩ <;> first | (go_keep; all_goals fail) | (refine cell_at ?_; rw [World.cell?_setCell_same' _ _ _ (cell_some (by assumption))]; rfl) | (simp [*]; all_goals fail)))
            ((first
              | (refine step_append (by rfl) _ _ _ (by rfl) w6.heap.size 25 ib zb 4 32 Try.underlying46 j1 j2 j3 j4 j5 (by decide) 0 [] (by rfl)
                  (own_empty (by first | exact Bk.new _ _ _ | exact (Bk.new _ _ _).drew | exact (Bk.new _ _ _).alloc _ | exact ((Bk.new _ _ _).alloc _).drew | exact bk_next _ _ _ _ | exact (bk_next _ _ _ _).drew) (by simp)) PA ps.length pc pss.flatten (by rfl) p4
                  (lies_of p5 (by first | exact ((H6.out.below.drew.alloc (by simp; omega) _).alloc (by simp; omega) _) | exact (H6.out.below.drew.alloc (by simp; omega) _))) p6 (by unfold maxLen; omega) (by omega) (below_size (by first | exact Below.drew (Below.alloc (Below.alloc (Below.refl _ _) (Nat.le_refl _) _) (by simp) _) | exact Below.drew (Below.alloc (Below.refl _ _) (Nat.le_refl _) _))) ps.length pss.flatten (by simp) (by simp) ?_; intro A7 k7 w7 own7 hbel7 hgr; try (have bx : Bk w7 _ #[.int .i64 x, .int .i64 y, .int .i64 x2, .int .i64 y2] 25 := grown_bk hgr (by first | exact (bk_next _ _ _ _).drew | exact bk_next _ _ _ _ | exact Bk.new _ _ _ | exact (Bk.new _ _ _).drew | exact (Bk.new _ _ _).alloc _ | exact ((Bk.new _ _ _).alloc _).drew | exact bk_next _ _ _ _ | exact (bk_next _ _ _ _).drew) (by simp [Value.ownBlock])))
              | (refine step_append (by rfl) _ _ _ (by rfl) w6.heap.size 25 ib zb 4 32 Try.underlying46 j1 j2 j3 j4 j5 (by decide) ps.length pss.flatten (by rfl)
                  (by first | assumption | exact own_alloc (by assumption) _) (some ⟨_, 0, none⟩) 1 1 [.int .i64 x, .int .i64 y, .int .i64 x2, .int .i64 y2] (by rfl) (by rfl)
                  (lies_bk (C := #[.int .i64 x, .int .i64 y, .int .i64 x2, .int .i64 y2]) (t := 25) (by first | assumption | exact Bk.new _ _ _ | exact (Bk.new _ _ _).drew) 1) (by simp [Value.oneCell']) (by unfold maxLen; omega) (by omega) (by have h := hbel7.size; simp at h ⊢; omega) (ps.length + 1) (pss.flatten ++ [.int .i64 x, .int .i64 y, .int .i64 x2, .int .i64 y2]) (by rfl) (by rfl) ?_; intro A8 k8 w8 own8 hbel8 hgr8)))
           all_goals go_wp2_with fail
           all_goals go_meet
           all_goals have hB8 : Below w6.heap.size w6 w8 := by (repeat (first | with_reducible exact Below.refl _ _ | with_reducible assumption | with_reducible refine Below.drew ?_ | with_reducible refine Below.alloc ?_ ?_ _ | with_reducible refine Below.trans ?_ hbel8 | with_reducible refine Below.trans ?_ hbel7 | (show (_ : Nat) ≤ _; first | omega | (simp; done) | (simp; omega) | (have h := hbel7.size; simp at h ⊢; omega))))
           all_goals exact ⟨(H6.out.go hB8).far (by show _ < g1; omega) _, (b1k.below hB8).far (by show h1 ≠ g1; exact fun h => n1 h.symm) _, with_pillar hB8 H6o.out (by omega) (by omega) f1 hf2.out hl6 Hx.out own8 p1 hp2.out (hz.out x (by simp)) (hz.out y (by simp)) (hz.out x2 (by simp)) (hz.out y2 (by simp))⟩
          case rest =>
          clear HSC HSS H6o hf2 hp2 H6 d1 d3 d4 d20 d21 d22 d23 d5 d6 f1 f2 f3 f4 f5 f6 p1 p2 p3 p4 p5 p6 hps t0 t2 t3 t4 t6 t7 l5 l6 l7 l8 l9 l10 l11 l12 l13 l3 b1k b2k o1 o2 o4 o5 o6 n1 n2 n3 n4 hl6 l4
          obtain ⟨Y, hY9⟩ : ∃ Y, Y = wc := ⟨_, rfl⟩
          rw [← hY9] at hcut ⊢
          obtain ⟨S7, b7, hE7⟩ := hcut
          clear hY9
          have hfw := (fewL_of Hr.out).1
          have hvi := Hv.out
          rw [viewZ_hit Hx.out] at hvi
          obtain ⟨cr, hcr⟩ : ∃ c, hitB px py sx sy (x, y, x2, y2) = c := ⟨_, rfl⟩
          have hmo : Hid (viewZ (nm, (sx, sy), ls.set i (nm', lh, q1, q2, q3, ps ++ [(x, y, x2, y2)], q4, la)) i (px, py) = if v < 3 ∧ cr = true then v + 1 else v) := Lib.hid (by
            rw [viewZ_hit (l := (nm', lh, q1, q2, q3, ps ++ [(x, y, x2, y2)], q4, la)) (by rw [List.getElem?_set_self (List.getElem?_eq_some_iff.1 Hx.out).1]), view_pillar, hvi, hcr])
          have hf7 : Hid (fewL (ls.set i (nm', lh, q1, q2, q3, ps ++ [(x, y, x2, y2)], q4, la))) := Lib.hid (few_set hfw (by simp; omega))
          have hn7 : (ls.set i (nm', lh, q1, q2, q3, ps ++ [(x, y, x2, y2)], q4, la)).length = ls.length := List.length_set
          have hoth : Hid (∀ k : Nat, k ≠ i → viewZ (nm, (sx, sy), ls.set i (nm', lh, q1, q2, q3, ps ++ [(x, y, x2, y2)], q4, la)) k (px, py) = viewZ (nm, (sx, sy), ls) k (px, py)) := Lib.hid fun k hk => viewZ_other hk
          have Hcr := Lib.hid hcr
          have Hvi := Lib.hid hvi
          clear hcr hvi hfw
          generalize hls7 : ls.set i (nm', lh, q1, q2, q3, ps ++ [(x, y, x2, y2)], q4, la) = ls7 at *
          clear hls7
          have H7 := Lib.hid (And.intro S7 (And.intro b7 hE7))
          have c2 := S7.hall.cell
          have c3 := S7.pt.cell
          have c4 := S7.box.cell
          have c5 := b7.cell
          have l1 := S7.hall.lt
          have l2 := S7.pt.lt
          have l3 := S7.box.lt
          have l4 := b7.lt
          have hYl : h1 < Y.heap.size := l4
          clear S7 b7 hE7
          obtain ⟨mo, hmo2⟩ : ∃ m, (if v < 3 ∧ cr = true then v + 1 else v) = m := ⟨_, rfl⟩
          rw [hmo2] at hmo
          go_upto_region 13 with (go_at_call 13; refine (view_n mo nm sx sy (some ⟨g1, 0, none⟩) ls7 ls.length k1 hn7 i px py _ Y.heap.size H7.out.2.2 (Nat.le_refl _) hl (hz.out sx (by simp)) (hz.out sy (by simp)) (hz.out px (by simp)) (hz.out py (by simp)) hf7 hmo).mono ?_; rintro e w' ⟨rfl, hb⟩; (first | (obtain ⟨u, rfl⟩ := ext_more hb; clear hb) | (obtain ⟨u, rfl⟩ := ext_more_alloc hb; clear hb) | (obtain ⟨u, rfl⟩ := ext_of hb; clear hb)))
          obtain ⟨qb, hqb⟩ : ∃ q, (decide (v < 3) && cr) = q := ⟨_, rfl⟩
          have hyu := below_ext Y u
          go_cut [81] (fun n X => n = .bool qb ∧ Below Y.heap.size Y X)
          case first =>
            have hcz : Hid (∀ z ∈ [px, py, sx, sy, x, y, x2, y2], fits z) := hz
            by_cases hv9 : v < 3
            · cases cr
              · obtain rfl : false = qb := by rw [← hqb]; simp
                go_wp2_with (go_at_call 11; refine (crosses_any false px py sx sy x y x2 y2 _ hcz Hcr).mono ?_; rintro e w' ⟨rfl, hb⟩; (first | (obtain ⟨u, rfl⟩ := ext_more hb; clear hb) | (obtain ⟨u, rfl⟩ := ext_more_alloc hb; clear hb) | (obtain ⟨u, rfl⟩ := ext_of hb; clear hb)))
                go_meet
                exact ⟨rfl, below_ext _ _⟩
              · obtain rfl : true = qb := by rw [← hqb]; simp [hv9]
                go_wp2_with (go_at_call 11; refine (crosses_any true px py sx sy x y x2 y2 _ hcz Hcr).mono ?_; rintro e w' ⟨rfl, hb⟩; (first | (obtain ⟨u, rfl⟩ := ext_more hb; clear hb) | (obtain ⟨u, rfl⟩ := ext_more_alloc hb; clear hb) | (obtain ⟨u, rfl⟩ := ext_of hb; clear hb)))
                go_meet
                exact ⟨rfl, below_ext _ _⟩
            · obtain rfl : false = qb := by rw [← hqb]; simp [hv9]
              go_wp2_with fail
              go_meet
              exact ⟨rfl, hyu⟩
          case rest =>
          obtain ⟨rfl, hYc⟩ := hcut
          have HYc := Lib.hid hYc
          clear hYc hyu
          apply_assumption
          go_cut [16] (fun n X => n = .int .i64 mo ∧ Below Y.heap.size Y X)
          case first =>
            cases qb
            · obtain rfl : v = mo := by
                rw [← hmo2, if_neg]
                rintro ⟨h1, h2⟩
                rw [h2] at hqb
                simp [h1] at hqb
              go_wp2_with fail
              go_meet
              exact ⟨rfl, HYc.out⟩
            · obtain rfl : v + 1 = mo := by
                rw [← hmo2, if_pos]
                simpa using hqb
              go_wp2_with fail
              go_meet
              exact ⟨rfl, HYc.out⟩
          case rest =>
          obtain ⟨rfl, hYc⟩ := hcut
          obtain ⟨Z, hZ9⟩ : ∃ Z, Z = wc := ⟨_, rfl⟩
          rw [← hZ9] at hYc ⊢
          clear hZ9 HYc hqb hmo2 hmo c2 c3 c4 c5 l1 l2 l3 l4
          have hYz := hYc.size
          have S8 := H7.out.1.go hYc
          have b8 := H7.out.2.1.below hYc
          have H8 := Lib.hid (And.intro S8 (And.intro b8 (H7.out.2.2.keep hYc (Nat.le_refl _))))
          have c2 := S8.hall.cell
          have c3 := S8.pt.cell
          have l1 := S8.hall.lt
          have l2 := S8.pt.lt
          have l4 := b8.lt
          clear S8 b8 H7 hYc
          go_upto_region 16 with (fail)
          refine forget (fun W => St w nm sx sy (some ⟨b, off, none⟩) ls.length lc px py x y x2 y2 W ∧ Bk W h1 #[.string nm, .int .i64 sx, .int .i64 sy, .slice (some ⟨g1, 0, none⟩) ls.length k1] 28 ∧ Elems tLevel W Y.heap.size (some ⟨g1, 0, none⟩) ls7 ∧ Bk W Z.heap.size #[.string nm, .int .i64 sx, .int .i64 sy, .slice (some ⟨b, off, none⟩) ls.length lc] 28) ⟨H8.out.1.go ((Below.refl _ _).alloc (Nat.le_refl _) _), H8.out.2.1.alloc _, H8.out.2.2.keep ((Below.refl _ _).alloc hYz _) (Nat.le_refl _), Bk.new _ _ _⟩ ?_
          obtain ⟨css, f1, f2, f3, f4, f5⟩ := HL.out.flat
          have f6 := one_flat (one_level _ _) f1 f2
          have hZz : Y.heap.size ≤ Z.heap.size := hYz
          have hwZ : w.heap.size + 2 < Z.heap.size := H8.out.1.lt
          clear H8 c2 c3 l1 l2 l4 hYz
          generalize Z.heap.size = h2 at *
          generalize Y.heap.size = yb at *
          rintro Z4 ⟨S9, b9, hE9, b10⟩
          have H9 := Lib.hid (And.intro S9 (And.intro b9 hE9))
          have c2 := S9.hall.cell
          have c5 := b10.cell
          have f7 := b10.free
          have l5 := b10.lt
          have l6 := S9.hall.lt
          clear S9 b9 hE9
          go_wp2_with (at_builtin; (refine list_append rfl _ _ _ rfl Z4.heap.size _ il zl 8 152 Try.underlying26 i1 i2 i3 i4 i5 (by decide) 0 [] rfl (own_start Z4 Z4.heap.size _ 8 (Nat.le_refl _)) (some ⟨b, off, none⟩) ls.length lc css.flatten rfl f4 ?_ f6 ?_ ?_ ?_ ls.length css.flatten ?_ rfl ?_))
          · exact lies_of f5 (H9.out.1.below.alloc H9.out.1.below.size _)
          · unfold maxLen; omega
          · omega
          · simp
          · simp
          intro A1 k2 w5 own1 hb1 _
          obtain ⟨g2, cur, rfl, o1, o2, o3, o4, o5, o6, o7⟩ := own_block own1 (by omega)
          have hb2 : Below Z4.heap.size Z4 w5 := ((Below.refl _ Z4).alloc (Nat.le_refl _) _).trans hb1
          have H5 := Lib.hid (And.intro (H9.out.1.go hb2) (And.intro (H9.out.2.1.below hb2) (H9.out.2.2.keep (hb2.mono (by omega)) (Nat.le_refl _))))
          replace b10 := b10.below hb2
          clear H9 c2 c5 f7 hb1 hb2 o3 o6 o7
          have c5 := b10.cell
          have f7 := b10.free
          have l6 := b10.lt
          go_upto_region 17 with (fail)
          refine forget (fun W => St w nm sx sy (some ⟨b, off, none⟩) ls.length lc px py x y x2 y2 W ∧ Bk W h1 #[.string nm, .int .i64 sx, .int .i64 sy, .slice (some ⟨g1, 0, none⟩) ls.length k1] 28 ∧ Elems tLevel W yb (some ⟨g1, 0, none⟩) ls7 ∧ Bk W h2 #[.string nm, .int .i64 sx, .int .i64 sy, .slice (some ⟨g2, 0, none⟩) ls.length k2] 28 ∧ W.ownsRow Z4.heap.size 51 8 (.slice (some ⟨g2, 0, none⟩) ls.length k2) ls.length css.flatten ∧ g2 < W.heap.size) ⟨?_, ?_, ?_, ?_, ?_, by simpa using o2⟩ ?_
          · exact H5.out.1.far (by simp; omega) _
          · exact H5.out.2.1.far (by show h1 ≠ h2; omega) _
          · exact H5.out.2.2.keep ((Below.refl _ _).setCell (by show yb ≤ h2; omega) _) (Nat.le_refl _)
          · exact b10.set_ 3 _
          · exact own_far own1 (by show g2 ≠ h2; omega) _
          clear H5 c5 f7 b10 own1 l6 o2
          rintro X ⟨S6, b6, hE6, b11, own6, hg2⟩
          obtain ⟨cur9, b12, o6⟩ := own_at own6
          obtain ⟨b', off', nm9, lh9, la9, q19, q29, q39, q49, PA9, pc9, ps9, e9, hbB9, Hx9, ⟨t0, t1, t2, t3, t4, t5, t6, t7⟩, hlh9, hla9, hnm9, hpc9, hpm9, hps9⟩ := pick_level HL.out (k := i) (by omega)
          have e8 := Option.some.inj (Hx.out.symm.trans Hx9.out)
          simp only [Prod.mk.injEq] at e8
          obtain ⟨rfl, rfl, rfl, rfl, rfl, rfl, rfl, rfl⟩ := e8
          simp only [Option.some.injEq, Addr.mk.injEq, and_true] at e9
          obtain ⟨rfl, rfl⟩ := e9
          have H6 := Lib.hid (And.intro S6 (And.intro b6 (And.intro hE6 (And.intro b11 own6))))
          have d1 : X.cell? ⟨w.heap.size, 3, none⟩ = some (.slice (some ⟨b, off, none⟩) ls.length lc) := S6.hall.cell 3
          have d3 := (S6.below.cell (p := ⟨b, off + i * 8 + 1, none⟩) hbB).trans t1
          have d4 : X.cell? ⟨h2, 3, none⟩ = some (.slice (some ⟨g2, 0, none⟩) ls.length k2) := b11.cell 3
          have d5 : X.cell? ⟨g2, i * 8 + 1, none⟩ = some (atCell X ⟨g2, i * 8 + 1, none⟩) := cell_at (by
            rw [b12.cell, Array.getElem?_eq_getElem (by omega)]
            rfl)
          have d6 := b12.free (i * 8 + 1)
          have m1 := S6.hall.lt
          have m2 := b11.lt
          have m3 : b < X.heap.size := by have := S6.below.size; omega
          have hl6 : w.heap.size ≤ X.heap.size := S6.below.size
          clear S6 b6 hE6 b11 own6 b12 t0 t2 t3 t4 t5 t6 t7
          obtain ⟨c9, hc9⟩ : ∃ c, ht % 10001 = c := ⟨_, rfl⟩
          have hc0 : 0 ≤ c9 := by omega
          have hc1 : c9 ≤ 10000 := by omega
          go_cut [] (fun X' => St w nm sx sy (some ⟨b, off, none⟩) ls.length lc px py x y x2 y2 X' ∧ Bk X' h1 #[.string nm, .int .i64 sx, .int .i64 sy, .slice (some ⟨g1, 0, none⟩) ls.length k1] 28 ∧ Elems tLevel X' yb (some ⟨g1, 0, none⟩) ls7 ∧ Bk X' h2 #[.string nm, .int .i64 sx, .int .i64 sy, .slice (some ⟨g2, 0, none⟩) ls.length k2] 28 ∧ Elems tLevel X' X'.heap.size (some ⟨g2, 0, none⟩) (ls.set i (nm', max lh c9, q1, q2, q3, ps, q4, la)))
          case first =>
            unfold fits at hlh
            by_cases hm : lh < c9
            · have hmx : max lh c9 = c9 := by omega
              refine region_planl (S := fun w' => ∃ u, w' = ext X u) [([0, 1, 2, 3, 4, 5, 6, 7, 8, 9], [10]), ([11, 12, 13], [])] 14 (by kernel_rfl) (by kernel_rfl) (by obtain ⟨u9, hu9⟩ := ext_of (Below.drew (Below.refl X.heap.size X)); exact ⟨u9, hu9.symm⟩) ?_
              refine plan_take (fun K9 h9 => ?_)
              simp only [List.map_cons, List.map_nil, pickO, List.getD_cons_zero, List.getD_cons_succ]
              repeat (go_big_quiet_step (fail))
              refine wpQuiet_nil (h9 _ ?_)
              clear h9 K9
              refine plan_run (fun K9 h9 => ?_)
              simp only [pickO, List.getD_cons_zero, List.getD_cons_succ]
              go_wp2_with (go_at_call 16; refine (coordinate_any ht _ hht.1 hht.2).mono ?_; rw [hc9]; rintro e w' ⟨rfl, rfl⟩)
              refine h9 _ _ (by obtain ⟨u9, hu9⟩ := ext_of (Below.drew (Below.refl X.heap.size X)); exact ⟨u9, hu9.symm⟩) ?_
              clear h9 K9
              refine plan_next ?_
              refine plan_take (fun K9 h9 => ?_)
              simp only [List.map_cons, List.map_nil, pickO, List.getD_cons_zero, List.getD_cons_succ]
              repeat (go_big_quiet_step (fail))
              refine wpQuiet_nil (h9 _ ?_)
              clear h9 K9
              refine plan_next (plan_end ?_)
              simp only [pickO, List.getD_cons_zero, List.getD_cons_succ]
              go_wp2_with fail
              go_meet
              exact ⟨H6.out.1.go ((Below.refl _ X).drew) |>.far (by show _ < g2; omega) _, (show Bk X.drew _ _ _ from H6.out.2.1).far (by show h1 ≠ g2; omega) _, (H6.out.2.2.1.keep ((Below.refl _ X).drew.setCell (by show yb ≤ g2; omega) _) (Nat.le_refl _)), (show Bk X.drew _ _ _ from H6.out.2.2.2.1).far (by show h2 ≠ g2; omega) _, by rw [hmx]; exact with_height (w6 := X.drew) (base := Z4.heap.size) (B := w.heap.size) H6.out.2.2.2.2 hg2 (by omega) f1 (fun a b c => tLevel.keep (H6.out.1.below.drew) (Nat.le_refl _) (f2 a b c)) hl6 Hx.out (by unfold fits; omega)⟩
            · have hmx : max lh c9 = lh := by omega
              refine region_planl (S := fun w' => ∃ u, w' = ext X u) [([0, 1, 2, 3, 4, 5, 6, 7, 8, 9], [10]), ([11, 12, 13], [])] 14 (by kernel_rfl) (by kernel_rfl) (by obtain ⟨u9, hu9⟩ := ext_of (Below.drew (Below.refl X.heap.size X)); exact ⟨u9, hu9.symm⟩) ?_
              refine plan_take (fun K9 h9 => ?_)
              simp only [List.map_cons, List.map_nil, pickO, List.getD_cons_zero, List.getD_cons_succ]
              repeat (go_big_quiet_step (fail))
              refine wpQuiet_nil (h9 _ ?_)
              clear h9 K9
              refine plan_run (fun K9 h9 => ?_)
              simp only [pickO, List.getD_cons_zero, List.getD_cons_succ]
              go_wp2_with (go_at_call 16; refine (coordinate_any ht _ hht.1 hht.2).mono ?_; rw [hc9]; rintro e w' ⟨rfl, rfl⟩)
              refine h9 _ _ (by obtain ⟨u9, hu9⟩ := ext_of (Below.drew (Below.refl X.heap.size X)); exact ⟨u9, hu9.symm⟩) ?_
              clear h9 K9
              refine plan_next ?_
              refine plan_take (fun K9 h9 => ?_)
              simp only [List.map_cons, List.map_nil, pickO, List.getD_cons_zero, List.getD_cons_succ]
              repeat (go_big_quiet_step (fail))
              refine wpQuiet_nil (h9 _ ?_)
              clear h9 K9
              refine plan_next (plan_end ?_)
              simp only [pickO, List.getD_cons_zero, List.getD_cons_succ]
              go_wp2_with fail
              go_meet
              exact ⟨H6.out.1.go ((Below.refl _ X).drew) |>.far (by show _ < g2; omega) _, (show Bk X.drew _ _ _ from H6.out.2.1).far (by show h1 ≠ g2; omega) _, (H6.out.2.2.1.keep ((Below.refl _ X).drew.setCell (by show yb ≤ g2; omega) _) (Nat.le_refl _)), (show Bk X.drew _ _ _ from H6.out.2.2.2.1).far (by show h2 ≠ g2; omega) _, by rw [hmx]; exact with_height (w6 := X.drew) (base := Z4.heap.size) (B := w.heap.size) H6.out.2.2.2.2 hg2 (by omega) f1 (fun a b c => tLevel.keep (H6.out.1.below.drew) (Nat.le_refl _) (f2 a b c)) hl6 Hx.out (by unfold fits; omega)⟩
          case rest =>
          obtain ⟨X2, hX9⟩ : ∃ X2, X2 = wc := ⟨_, rfl⟩
          rw [← hX9] at hcut ⊢
          clear hX9
          obtain ⟨S6, b6, hE6, b11, hE2⟩ := hcut
          have hy2 : yb ≤ X2.heap.size := by have := b11.lt; omega
          obtain ⟨vh, hvh⟩ : ∃ q, viewZ (nm, (sx, sy), ls.set i (nm', max lh c9, q1, q2, q3, ps, q4, la)) i (px, py) = q := ⟨_, rfl⟩
          have hle : lh < 0 ∨ v ≤ vh := by
            rcases Int.lt_or_le lh 0 with h | h
            · exact .inl h
            · right
              rw [← hvh, ← Hvi.out, viewZ_hit (l := (nm', max lh c9, q1, q2, q3, ps, q4, la)) (by rw [List.getElem?_set_self (List.getElem?_eq_some_iff.1 Hx.out).1])]
              exact view_height h (by omega)
          have hfh : Hid (fewL (ls.set i (nm', max lh c9, q1, q2, q3, ps, q4, la))) := Lib.hid (few_set (fewL_of Hr.out).1 (by simp; omega))
          have hnh : (ls.set i (nm', max lh c9, q1, q2, q3, ps, q4, la)).length = ls.length := List.length_set
          generalize hlsh : ls.set i (nm', max lh c9, q1, q2, q3, ps, q4, la) = lsh at *
          clear hlsh
          have Hvh := Lib.hid hvh
          clear hvh
          have hEo := HL.out.keep S6.below (Nat.le_refl _)
          have d1 := S6.hall.cell
          have d2 := S6.pt.cell
          have d3 := b6.cell
          have d4 := b11.cell
          have m1 := S6.hall.lt
          have m2 := S6.pt.lt
          have m3 := b6.lt
          have m4 := b11.lt
          have hws := S6.below.size
          have hd5 := (S6.below.cell (p := ⟨b, off + i * 8 + 1, none⟩) hbB).trans (show w.cell? ⟨b, off + i * 8 + 1, none⟩ = some (.int .i64 lh) by
            obtain ⟨b', off', nm9, lh9, la9, q19, q29, q39, q49, PA9, pc9, ps9, e9, hbB9, Hx9, ⟨t0, t1, t2, t3, t4, t5, t6, t7⟩, _⟩ := pick_level HL.out (k := i) (by omega)
            have e8 := Option.some.inj (Hx.out.symm.trans Hx9.out)
            simp only [Prod.mk.injEq] at e8
            obtain ⟨rfl, rfl, rfl, rfl, rfl, rfl, rfl, rfl⟩ := e8
            simp only [Option.some.injEq, Addr.mk.injEq, and_true] at e9
            obtain ⟨rfl, rfl⟩ := e9
            exact t1)
          have m5 : b < X2.heap.size := by omega
          have H9 := Lib.hid (And.intro S6 (And.intro hE6 (And.intro hE2 hEo)))
          clear S6 b6 hE6 b11 hE2 hEo
          obtain ⟨kk, hkk⟩ : ∃ kk : Nat, ((i : Int) + 1) % ls.length = kk := ⟨(((i : Int) + 1) % ls.length).toNat, by rw [Int.toNat_of_nonneg (Int.emod_nonneg _ (by omega))]⟩
          obtain ⟨vk, hvk⟩ : ∃ q, viewZ (nm, (sx, sy), ls) kk (px, py) = q := ⟨_, rfl⟩
          have Hvk := Lib.hid hvk
          clear hvk
          have hV : ∀ (LA : Option Addr) (l : List Lv) (lc r : Int) (hn : l.length = ls.length) (lv : Int), True := fun _ _ _ _ _ _ => trivial
          clear hV
          go_upto_region 19 with (fail)
          go_cut [123] (fun n X' => n = .bool false ∧ Below X2.heap.size X2 X')
          case first =>
            by_cases hki : kk = i
            · have hne : ((kk : Int) != (i : Int)) = false := by simp [hki]
              refine wp_region_ext X2 (by kernel_rfl) (by kernel_rfl) ?_
              repeat (go_big_quiet_step (fail))
              refine wpQuiet_nil (fun v9 => ?_)
              go_wp2_with fail
              go_meet
              exact ⟨rfl, below_ext _ _⟩
            · have hne : ((kk : Int) != (i : Int)) = true := by simpa using (show ¬ (kk : Int) = i by omega)
              have Hv7 := Lib.hid ((hoth.out kk hki).trans Hvk.out)
              have HA := Lib.hid (fun u9 => Calls.in_ext (view_n vk nm sx sy (some ⟨g1, 0, none⟩) ls7 ls.length k1 hn7 kk px py (ext X2 u9) yb (H9.out.2.1.keep ((below_ext _ _).mono hy2) (Nat.le_refl _)) (Nat.le_trans hy2 (size_ext _ _)) hl (hz.out sx (by simp)) (hz.out sy (by simp)) (hz.out px (by simp)) (hz.out py (by simp)) hf7 Hv7))
              have HB := Lib.hid (fun u9 => Calls.in_ext (view_n vk nm sx sy (some ⟨b, off, none⟩) ls ls.length lc rfl kk px py (ext X2 u9) w.heap.size (H9.out.2.2.2.keep ((below_ext _ _).mono hws) (Nat.le_refl _)) (Nat.le_trans hws (size_ext _ _)) hl (hz.out sx (by simp)) (hz.out sy (by simp)) (hz.out px (by simp)) (hz.out py (by simp)) (fewL_of Hr.out).1 Hvk))
              refine wp_region_ext X2 (by kernel_rfl) (by kernel_rfl) ?_
              repeat (go_big_quiet_step ((go_at_call 13; first | with_reducible exact HA.out _ | with_reducible exact HB.out _)))
              refine wpQuiet_nil (fun v9 => ?_)
              go_wp2_with fail
              go_meet
              exact ⟨rfl, below_ext _ _⟩
          case rest =>
          obtain ⟨rfl, hlow⟩ := hcut
          obtain ⟨u, rfl⟩ := ext_of hlow
          clear hlow
          by_cases hge : v ≤ vh
          · go_wp2_with (go_at_call 13; refine (view_n vh nm sx sy (some ⟨g2, 0, none⟩) lsh ls.length k2 hnh i px py _ X2.heap.size (H9.out.2.2.1.keep (below_ext _ _) (Nat.le_refl _)) (size_ext _ _) hl (hz.out sx (by simp)) (hz.out sy (by simp)) (hz.out px (by simp)) (hz.out py (by simp)) hfh Hvh).mono ?_; rintro e w' ⟨rfl, hb⟩; (first | (obtain ⟨u, rfl⟩ := ext_more hb; clear hb) | (obtain ⟨u, rfl⟩ := ext_more_alloc hb; clear hb) | (obtain ⟨u, rfl⟩ := ext_of hb; clear hb)))
            go_ret
            exact ⟨rfl, (H9.out.1.go (below_ext _ _)).below⟩
          · have hlt : lh < 0 := by omega
            go_wp2_with (go_at_call 13; refine (view_n vh nm sx sy (some ⟨g2, 0, none⟩) lsh ls.length k2 hnh i px py _ X2.heap.size (H9.out.2.2.1.keep (below_ext _ _) (Nat.le_refl _)) (size_ext _ _) hl (hz.out sx (by simp)) (hz.out sy (by simp)) (hz.out px (by simp)) (hz.out py (by simp)) hfh Hvh).mono ?_; rintro e w' ⟨rfl, hb⟩; (first | (obtain ⟨u, rfl⟩ := ext_more hb; clear hb) | (obtain ⟨u, rfl⟩ := ext_more_alloc hb; clear hb) | (obtain ⟨u, rfl⟩ := ext_of hb; clear hb)))
            go_ret
            exact ⟨rfl, (H9.out.1.go (below_ext _ _)).below⟩
set_option maxRecDepth 100000 in
theorem sightObstacles_lifted (os : Os) (started : os.Started) (H : Type) (enc : TypeId × Value → H) :
    ReturnsInHanded {} Try.checked os 8 .any (Rows.sightObstaclesSpec.pre6 enc Try.prog Try.f8 [] false) (Rows.sightObstaclesSpec.post enc Try.prog Try.f8 false true false false) := by
  refine law_lifted (C := Try.checked) own started (by kernel_rfl) Try.func8 rfl (fun ds hds => ?_) (tb := 4) (by kernel_rfl) Try.underlying4 laidOut (fun t ht => ?_)
    (ChangeSpec.witness6 (enc := enc) (C := Try.checked) false ⟨#[], #[.agg #[.string ⟨#[]⟩, .int .i64 0, .int .i64 0, .slice none 0 0], .int .u8 0, .agg #[.int .i64 0, .int .i64 0], .agg #[.int .i64 0, .int .i64 0, .int .i64 0, .int .i64 0], .int .u16 0], []⟩ 8 (by kernel_rfl) (by kernel_rfl) (by kernel_rfl) (by kernel_rfl)) ?_
  · rw [Try.params8] at hds
    match ds, hds with
    | [_, _, _, _, _], _ => rfl
  · have := List.all_eq_true.1 (show (Try.f8.params.toList.all fun t => Try.prog.readableRec t && decide (t < Try.prog.types.size)) = true by kernel_rfl) t ht
    simp only [Bool.and_eq_true, decide_eq_true_eq] at this
    exact this
  · intro W args g
    rw [Try.params8] at g
    obtain ⟨v0, q0, e0, g0, h0⟩ := g.cons_inv
    obtain ⟨v1, q1, rfl, g1, h1⟩ := h0.cons_inv
    obtain ⟨v2, q2, rfl, g2, h2⟩ := h1.cons_inv
    obtain ⟨v3, q3, rfl, g3, h3⟩ := h2.cons_inv
    obtain ⟨v4, q4, rfl, g4, h4⟩ := h3.cons_inv
    obtain rfl := h4.nil_inv
    obtain rfl : args = #[v0, v1, v2, v3, v4] := by cases args; simp_all
    obtain ⟨c0, y0, rfl, r0⟩ := g0.agg Try.underlying28 opensHall
    obtain ⟨raw, rfl, u1, u2⟩ := g1.u8 Try.underlying5 (by kernel_rfl)
    obtain ⟨c2, y2, rfl, r2⟩ := g2.agg Try.underlying23 opensPoint
    obtain ⟨c3, y3, rfl, r3⟩ := g3.agg Try.underlying25 opensBox
    obtain ⟨ht, rfl, u3, u4⟩ := g4.u16 Try.underlying34 (by kernel_rfl)
    obtain ⟨e2, a1, a2⟩ := point_of r2
    obtain ⟨e3, a5, a6, a7, a8⟩ := box_of r3
    obtain ⟨LA, lc, e0, b1, b2, b3, b4, b5, b6⟩ := hall_of r0
    rw [e0, e2, e3]
    refine obstacles_walk raw y2.1 y2.2 y3.1 y3.2.1 y3.2.2.1 y3.2.2.2 y0.2.1.1 y0.2.1.2 ht y0.1 LA y0.2.2 lc W b6 (by unfold maxLen at b5; omega) (Lib.hid ?_) ⟨u1, u2⟩ ⟨u3, u4⟩
    intro z hz
    simp only [List.mem_cons, List.not_mem_nil, or_false] at hz
    rcases hz with rfl | rfl | rfl | rfl | rfl | rfl | rfl | rfl <;> assumption

theorem sightObstacles_holds : Rows.SightObstaclesSaid :=
  OpenClaim.holds_of_wide 8 Try.f8 rfl rfl rfl rfl rfl rfl rfl ⟨rfl, rfl, rfl, rfl, rfl⟩ rfl rfl rfl rfl rfl (by kernel_rfl) Try.func8 (by kernel_rfl)
    (of_decide_eq_true (by kernel_rfl)) (by unfold Func.isWrapper; first | (rw [if_pos (by decide +kernel)]; kernel_rfl) | (rw [if_neg (by decide +kernel)]; exact ⟨rfl, rfl⟩))
    (fun os started H enc _ => sightObstacles_lifted os started H enc)
#print axioms sightObstacles_holds


end Go.Proofs.Ytbphalaajhnnjaa
