/- Layer 30 (title): Valid. -/
import Derived.Test.YtojkpoikamcgkaaDoorOwnM
namespace Go.Proofs.YtojkpoikamcgkaaDoor
open Go.RowKit Go.Shelf
set_option linter.unusedVariables false
set_option linter.unusedSimpArgs false
attribute [local go_sem] ext_cell ext_frozen lt_ext ext_drew
attribute [local go_sem] Oper.semAt_some

/-- Whether transfer number k is right. -/
def stepB (se sh : Int) (fi : ByteArray) (ch : List Tr) (k : Nat) : Bool :=
  match ch[k]? with
  | some x => !usedB fi (ch.take k) x.1 && verifyL (ownerL fi (ch.take k)).data.toList (messageL se sh fi (ch.take k) x.1) (bytesL x.2)
  | none => true
def validB (se sh pl : Int) (fi : ByteArray) (ch : List Tr) : Bool := formedB se sh pl fi ch && (List.range ch.length).all (stepB se sh fi ch)
def smallT (fi : ByteArray) (ch : List Tr) : Prop := fi.size ≤ 1000 ∧ ∀ x ∈ ch, x.1.size ≤ 1000 ∧ x.2.length ≤ 1000 ∧ ∀ s ∈ x.2, s.size ≤ 1000
theorem keepsFrom_below {B : Nat} {W W' : World} (h : Below W.heap.size W W') : KeepsFrom B W W' := ⟨h.size, fun k o _ hk ho => (h.block k (Array.getElem?_eq_some_iff.1 hk).1).trans hk⟩
theorem bk_own {β : Type} (B : Nat) (C : Array Value) (t : TypeId) : Own (fun (_ : β) W => Bk W B C t) := fun s X Y row hs hg hrow => by
  have hs' : X.heap[B]? = some (.cells C t (0, 0)) := hs
  refine (hg.block B hs.lt (fun e' => ?_)).trans hs
  obtain ⟨o, ho, hc⟩ := hrow B e'.symm
  rw [hs'] at ho
  cases ho
  cases hc
theorem elems_take {w : World} {B : Nat} {A : Option Addr} {ch : List Tr} (h : Elems tTr w B A ch) (k : Nat) : Elems tTr w B A (ch.take k) := fun i hi => by
  have hi' : i < ch.length := by rw [List.length_take] at hi; omega
  obtain ⟨b, off, cs, h1, h2, h3, h4⟩ := h i hi'
  exact ⟨b, off, cs, h1, h2, by rw [List.getElem_take]; exact h3, h4⟩
/-- The cells of the transfers, by number. -/
theorem elems_tr {w : World} {B : Nat} {A : Option Addr} {ch : List Tr} (h : Elems tTr w B A ch) : ∃ (AS : Nat → Option Addr) (cs : Nat → Nat), ∀ k (hk : k < ch.length),
    (∃ b off, A = some ⟨b, off, none⟩ ∧ b < B ∧ w.cell? ⟨b, off + k * 2, none⟩ = some (.string ch[k].1) ∧ w.cell? ⟨b, off + k * 2 + 1, none⟩ = some (.slice (AS k) ch[k].2.length (cs k))) ∧
      ch[k].2.length ≤ cs k ∧ cs k ≤ maxLen ∧ Elems tStr w B (AS k) ch[k].2 := by
  have key : ∀ k : Nat, ∃ p : Option Addr × Nat, ∀ (hk : k < ch.length),
    (∃ b off, A = some ⟨b, off, none⟩ ∧ b < B ∧ w.cell? ⟨b, off + k * 2, none⟩ = some (.string ch[k].1) ∧ w.cell? ⟨b, off + k * 2 + 1, none⟩ = some (.slice p.1 ch[k].2.length p.2)) ∧
      ch[k].2.length ≤ p.2 ∧ p.2 ≤ maxLen ∧ Elems tStr w B p.1 ch[k].2 := fun k => by
    by_cases hk : k < ch.length
    · obtain ⟨b, off, tk, AS, ss, cs, hA, hb, Hk, d0, d1, _, _, HE⟩ := pick_tr h hk
      have e : ch[k] = (tk, ss) := by
        have := Hk.out
        rw [List.getElem?_eq_getElem hk] at this
        exact Option.some.inj this
      refine ⟨(AS, cs), fun _ => ?_⟩
      rw [e]
      exact ⟨⟨b, off, hA, hb, d0, d1⟩, HE.out⟩
    · exact ⟨(none, 0), fun h => absurd h hk⟩
  obtain ⟨f, hf⟩ := Classical.axiomOfChoice key
  exact ⟨fun k => (f k).1, fun k => (f k).2, hf⟩
theorem run_loadVar_bool {P : Program} {w : World} {b : Nat} {ty : TypeId} {v : Value} (hu : P.underlying ty = some .bool) (hc : w.cell? ⟨b, 0, none⟩ = some v) : (loadVar ty ⟨b, 0, none⟩).run P w = .ok v w := by
  have hagg : (isAgg ty).run P w = .ok false w := by
    unfold isAgg
    rw [Sem.run_bind, run_underlying hu w]
    rfl
  unfold loadVar
  rw [Sem.run_bind, hagg]
  simp [hc]
/-- The iterator's contract. -/
theorem steps_stops (n Bn : Nat) (se sh pl : Int) (fi : ByteArray) (A : Option Addr) (cap : Nat) (ch : List Tr) (AS : Nat → Option Addr) (cs : Nat → Nat) (W0 : World) (hcap : ch.length ≤ cap) (hmax : cap ≤ maxLen) (hB : Bk W0 Bn (titV se sh pl fi A ch.length cap) 24)
    (hE : ∀ k (h : k < ch.length), ∃ b off, A = some ⟨b, off, none⟩ ∧ b < W0.heap.size ∧ W0.cell? ⟨b, off + k * 2, none⟩ = some (.string ch[k].1) ∧ W0.cell? ⟨b, off + k * 2 + 1, none⟩ = some (.slice (AS k) ch[k].2.length (cs k))) :
    SeqStopsK Fence.wide n Tryd.prog 36 #[.pointer (some ⟨Bn, 0, none⟩)] (stepV se sh pl fi A cap ch AS cs) (Below W0.heap.size) (fun ys => ys.map (·.1) = List.range ch.length) (fun _ => True) ch.length W0 :=
  fun l J Jx W hW hJ _ hY h0 =>
    steps1_in n l Bn W0.heap.size se sh pl fi A cap ch AS cs hcap hmax hB.lt J Jx hY W hJ hW.size ((hW.block Bn hB.lt).trans hB)
      (fun k hk => by
        obtain ⟨b, off, h1, h2, h3, h4⟩ := hE k hk
        exact ⟨b, off, h1, h2, (hW.cell (p := ⟨b, off + k * 2, none⟩) h2).trans h3, (hW.cell (p := ⟨b, off + k * 2 + 1, none⟩) h2).trans h4⟩) h0
set_option maxRecDepth 100000 in
set_option maxHeartbeats 4000000 in
theorem valid_any (se sh pl : Int) (fi : ByteArray) (A : Option Addr) (ch : List Tr) (cap : Nat) (w : World) (B : Nat) (h : Elems tTr w B A ch) (hB : B ≤ w.heap.size) (hcap : ch.length ≤ cap) (hmax : cap ≤ maxLen)
    (hs : smallT fi ch) (s1 : -9223372036854775808 ≤ se) (s2 : se ≤ 9223372036854775807) (s3 : -9223372036854775808 ≤ sh) (s4 : sh ≤ 9223372036854775807) (s5 : -9223372036854775808 ≤ pl) (s6 : pl ≤ 9223372036854775807) (ht : Tabs w) :
    Calls Tryd.prog 7 #[.agg #[.int .i64 se, .int .i64 sh, .int .i64 pl, .string fi, .slice A ch.length cap]] w fun e w' => e = .returned (.bool (validB se sh pl fi ch)) ∧ Below w.heap.size w w' := by
  have hmax' := hmax
  unfold maxLen at hmax'
  have hB2 : Below w.heap.size w ((w.alloc (.cells #[.int .i64 se, .int .i64 sh, .int .i64 pl, .string fi, .slice A ch.length cap] 24)).alloc (.cells #[.bool false] 4)) := by (repeat (first | with_reducible exact Below.refl _ _ | with_reducible assumption | with_reducible refine Below.alloc0 ?_ _ | with_reducible refine Below.ext0 ?_ _ | with_reducible refine Below.drew ?_ | with_reducible refine below_drewN ?_ _ | (with_reducible refine Below.setCell (hp := ?hp) ?_ _; case hp => (first | (simp; done) | (simp; omega)))))
  have hfo := formed_any se sh pl fi A ch cap _ _ (h.keep (hB2.mono hB) (Nat.le_refl _)) (by simp; omega) (by omega) (by have := hs.1; omega) s1 s2 s3 s4 s5 s6
  have b0 : Bk ((w.alloc (.cells #[.int .i64 se, .int .i64 sh, .int .i64 pl, .string fi, .slice A ch.length cap] 24)).alloc (.cells #[.bool false] 4)) w.heap.size #[.int .i64 se, .int .i64 sh, .int .i64 pl, .string fi, .slice A ch.length cap] 24 := (Bk.new _ _ _).alloc _
  have b1 : Bk ((w.alloc (.cells #[.int .i64 se, .int .i64 sh, .int .i64 pl, .string fi, .slice A ch.length cap] 24)).alloc (.cells #[.bool false] 4)) (w.heap.size + 1) #[.bool false] 4 := bk_next w _ _ _
  have hsz2 : w.heap.size + 2 ≤ ((w.alloc (.cells #[.int .i64 se, .int .i64 sh, .int .i64 pl, .string fi, .slice A ch.length cap] 24)).alloc (.cells #[.bool false] 4)).heap.size := by simp
  cases hf : formedB se sh pl fi ch with
  | false =>
    rw [hf] at hfo
    have HF := Lib.hid (And.intro hfo (And.intro hB2 (And.intro b1 (show validB se sh pl fi ch = false by unfold validB; rw [hf]; rfl))))
    clear hfo hB2 b1 b0 hf h hs ht
    go_enter Tryd.func7, Tryd.ntmps7
    go_wp2_with (go_at_call 15; refine HF.out.1.mono ?_; rintro e w2 ⟨rfl, z1⟩; have b2 := HF.out.2.2.1.below z1; have HZ := Lib.hid (And.intro z1 b2); have c2 := b2.cell 0; have l2 := b2.lt; have f2 := b2.free 0; clear z1 b2)
    refine bodyPost_ret (v := .bool false) (results_cell Tryd.results7 (p := ⟨w.heap.size + 1, 0, none⟩) rfl (run_loadVar_bool Tryd.underlying4 ?_)) rfl ⟨by rw [HF.out.2.2.2], ?_⟩
    · exact (HZ.out.2.set_ 0 (.bool false)).cell 0
    · exact (HF.out.2.1.trans (HZ.out.1.mono (by omega))).setCell (by simp) _
  | true =>
    rw [hf] at hfo
    obtain ⟨AS, cs, hcs⟩ := elems_tr h
    have HF := Lib.hid (And.intro hfo (And.intro hB2 (And.intro b0 (And.intro b1 (And.intro h (And.intro hcs (And.intro hs (And.intro ht hf))))))))
    clear hfo hB2 b1 b0 hf h hs ht hcs
    refine (callsIn_wide (n := 6)).1 ?_
    refine callsIn_of_wp_marks Tryd.func7 rfl trivial ?_ rfl
    simp only [Tryd.ntmps7, List.size_toArray, List.length_cons, List.length_nil, Nat.reduceAdd, Nat.reduceSub, Array.replicate_succ, Array.replicate_zero, List.push_toArray, List.append_toArray, List.nil_append, List.cons_append]
    gi_wp2_with (first
      | (refine ⟨trivial, ?_⟩; gi_at_call 15; refine (callsIn_wide.2 HF.out.1).mono ?_; rintro e w2 ⟨rfl, z1⟩; have b2 := HF.out.2.2.1.below z1; have b3 := HF.out.2.2.2.1.below z1; have HZ := Lib.hid (And.intro z1 (And.intro b2 b3)); have c20 := b2.cell 0; have c21 := b2.cell 1; have c22 := b2.cell 2; have c23 := b2.cell 3; have c24 := b2.cell 4; have l2 := b2.lt; clear z1 b2 b3)
      | (refine ⟨trivial, ?_⟩; gi_at_call 16; refine (callsIn_wide.2 (steps_any _ _ _ _ _ _ _ _)).mono ?_; rintro e w3 ⟨rfl, rfl⟩))
    have hbs : Bk (w2.alloc (.cells #[.int .i64 se, .int .i64 sh, .int .i64 pl, .string fi, .slice A ch.length cap] 24)) w2.heap.size (titV se sh pl fi A ch.length cap) 24 := Bk.new _ _ _
    have hbr : Bk (w2.alloc (.cells #[.int .i64 se, .int .i64 sh, .int .i64 pl, .string fi, .slice A ch.length cap] 24)) (w.heap.size + 1) #[.bool false] 4 := HZ.out.2.2.alloc _
    have hw2 : Below w.heap.size w (w2.alloc (.cells #[.int .i64 se, .int .i64 sh, .int .i64 pl, .string fi, .slice A ch.length cap] 24)) := (HF.out.2.1.trans (HZ.out.1.mono (by omega))).alloc (by have := HZ.out.1.size; omega) _
    have hsW : w.heap.size + 2 ≤ (w2.alloc (.cells #[.int .i64 se, .int .i64 sh, .int .i64 pl, .string fi, .slice A ch.length cap] 24)).heap.size := by have := HZ.out.1.size; simp; omega
    generalize w2.heap.size = Bs at *
    generalize w2.alloc (.cells #[.int .i64 se, .int .i64 sh, .int .i64 pl, .string fi, .slice A ch.length cap] 24) = W0 at *
    clear HZ c20 c21 c22 c23 c24 l2
    have hE0 : ∀ k (h : k < ch.length), ∃ b off, A = some ⟨b, off, none⟩ ∧ b < W0.heap.size ∧ W0.cell? ⟨b, off + k * 2, none⟩ = some (.string ch[k].1) ∧ W0.cell? ⟨b, off + k * 2 + 1, none⟩ = some (.slice (AS k) ch[k].2.length (cs k)) := fun k hk => by
      obtain ⟨⟨b, off, h1, h2, h3, h4⟩, _⟩ := HF.out.2.2.2.2.2.1 k hk
      exact ⟨b, off, h1, by omega, (hw2.cell (p := ⟨b, off + k * 2, none⟩) (by show b < w.heap.size; omega)).trans h3, (hw2.cell (p := ⟨b, off + k * 2 + 1, none⟩) (by show b < w.heap.size; omega)).trans h4⟩
    refine wpIn_rangeFunc_ownH rfl (by omega) (gf := 36) (lb := #[.pointer (some ⟨Bs, 0, none⟩)]) rfl trivial (enters_of Tryd.func36 (by kernel_rfl) rfl)
      (steps_stops (6 - 1) Bs se sh pl fi A cap ch AS cs W0 hcap hmax hbs hE0) belowK_t (belowK_b (Nat.le_refl _)) (Below.refl _ _) (fun _ => rfl)
      (fun pre W => (∀ k ∈ pre, stepB se sh fi ch k.1 = true) ∧ Below W0.heap.size W0 W)
      (fun c pre W => (c = .ret ∧ ∃ k, k < ch.length ∧ stepB se sh fi ch k = false) ∧ (Bk W (w.heap.size + 1) #[.bool false] 4 ∧ Below w.heap.size w W))
      (OwnFrom.and (ownFrom_pure _ _) (ownFrom_below (Nat.le_refl _) (Nat.le_refl _)))
      (fun c => OwnFrom.and (ownFrom_pure _ _) (OwnFrom.and (Own.from (bk_own _ _ _) _) (ownFrom_below (Nat.le_refl _) (by omega))))
      ⟨fun k hk => absurd hk (by simp), Below.refl _ _⟩
      (fun k a' W => ∃ B3 B4, w.heap.size + 1 < B3 ∧ w.heap.size + 1 < B4 ∧ Bk W B3 #[.int .i64 se, .int .i64 sh, .int .i64 pl, .string fi, .slice A k.1 cap] 24 ∧ Bk W B4 #[.string ch[k.1].1, .slice (AS k.1) ch[k.1].2.length (cs k.1)] 27 ∧
        a' = { tmps := #[.agg #[.int .i64 se, .int .i64 sh, .int .i64 pl, .string fi, .slice A ch.length cap], .pointer (some ⟨w.heap.size, 0, none⟩), .pointer (some ⟨w.heap.size + 1, 0, none⟩), .pointer (some ⟨B3, 0, none⟩), .pointer (some ⟨B4, 0, none⟩), .agg #[.int .i64 se, .int .i64 sh, .int .i64 pl, .string fi, .slice A ch.length cap], .bool true, .bool false, .agg #[.int .i64 se, .int .i64 sh, .int .i64 pl, .string fi, .slice A ch.length cap], .func (.func 36) #[] #[.pointer (some ⟨Bs, 0, none⟩)],
          .agg #[.int .i64 se, .int .i64 sh, .int .i64 pl, .string fi, .slice A k.1 cap], .agg #[.string ch[k.1].1, .slice (AS k.1) ch[k.1].2.length (cs k.1)], undef, undef, undef, undef, undef, undef, undef, undef, undef, undef, undef, undef, undef, undef, undef, undef], defers := [] })
      (fun k a' _ X Y row hs hg hr => by
        obtain ⟨B3, B4, h1, h2, h3, h4, h5⟩ := hs
        exact ⟨B3, B4, h1, h2, bk_own (β := Unit) _ _ _ () X Y row h3 hg (fun r e => (hr r e).2), bk_own (β := Unit) _ _ _ () X Y row h4 hg (fun r e => (hr r e).2), h5⟩)
      ?assign ?body ?done ?stop
    case assign =>
      rintro l pre k W K ⟨i1, i3⟩ hK
      have hz3 := i3.size
      unfold stepV
      gi_wp2
      have hb : Below W.heap.size W ((W.alloc (.cells #[.int .i64 se, .int .i64 sh, .int .i64 pl, .string fi, .slice A k.1 cap] 24)).alloc (.cells #[.string ch[k.1].1, .slice (AS k.1) ch[k.1].2.length (cs k.1)] 27)) := Below.alloc0 (Below.alloc0 (Below.refl _ _) _) _
      exact hK _ _ (keepsFrom_below hb) (hb.mono hz3) ⟨i1, i3.trans (hb.mono hz3)⟩ ⟨W.heap.size, W.heap.size + 1, by omega, by omega, (Bk.new _ _ _).alloc _, bk_next _ _ _ _, rfl⟩
    case body =>
      rintro l pre k a' W hl _ ⟨i1, i3⟩ ⟨B3, B4, g3, g4, b3, b4, rfl⟩ hlt
      have hz3 := i3.size
      have hBW : Below w.heap.size w W := hw2.trans (i3.mono (by omega))
      have bR : Bk W (w.heap.size + 1) #[.bool false] 4 := hbr.below i3
      have hlk : (ch.take k.1).length = k.1 := by rw [List.length_take]; have := k.2; omega
      have hk2 := k.2
      have hfm : ch.length ≤ 50 := by
        have := HF.out.2.2.2.2.2.2.2.2
        unfold formedB headB at this
        simp only [Bool.and_eq_true, decide_eq_true_eq] at this
        exact this.1.2
      have hsm := HF.out.2.2.2.2.2.2.1
      have hmem : ch[k.1] ∈ ch := List.getElem_mem _
      have hst : stepB se sh fi ch k.1 = (!usedB fi (ch.take k.1) ch[k.1].1 && verifyL (ownerL fi (ch.take k.1)).data.toList (messageL se sh fi (ch.take k.1) ch[k.1].1) (bytesL ch[k.1].2)) := by
        unfold stepB
        rw [List.getElem?_eq_getElem hk2]
      obtain ⟨_, hc1, hc2, hc3⟩ := HF.out.2.2.2.2.2.1 k.1 hk2
      have hkx := hsm.2 _ hmem
      obtain ⟨tk, htk⟩ : ∃ t, ch[k.1].1 = t := ⟨_, rfl⟩
      obtain ⟨sg, hsg⟩ : ∃ s, ch[k.1].2 = s := ⟨_, rfl⟩
      rw [htk, hsg] at hst hkx b4
      rw [hsg] at hc1 hc3
      have hus := fun (X : World) (hX : Below W.heap.size W X) => (by
        have q := used_any tk se sh pl fi A (ch.take k.1) cap X X.heap.size ((elems_take HF.out.2.2.2.2.1 k.1).keep ((hBW.trans (hX.mono (by omega))).mono hB) (by have := hX.size; omega)) (Nat.le_refl _) (by omega)
        rw [hlk] at q
        exact q : Calls Tryd.prog 17 #[.agg #[.int .i64 se, .int .i64 sh, .int .i64 pl, .string fi, .slice A k.1 cap], .string tk] X fun e w' => e = .returned (.bool (usedB fi (ch.take k.1) tk)) ∧ Below X.heap.size X w')
      have how := fun (X : World) (hX : Below W.heap.size W X) => (by
        have q := owner_any se sh pl fi A (ch.take k.1) cap X X.heap.size ((elems_take HF.out.2.2.2.2.1 k.1).keep ((hBW.trans (hX.mono (by omega))).mono hB) (by have := hX.size; omega)) (Nat.le_refl _) (by omega)
        rw [hlk] at q
        exact q : Calls Tryd.prog 9 #[.agg #[.int .i64 se, .int .i64 sh, .int .i64 pl, .string fi, .slice A k.1 cap]] X fun e w' => e = .returned (.string (ownerL fi (ch.take k.1))) ∧ Below X.heap.size X w')
      have hme := fun (X : World) (hX : Below W.heap.size W X) => (by
        have q := message_any tk se sh pl fi A (ch.take k.1) cap X X.heap.size ((elems_take HF.out.2.2.2.2.1 k.1).keep ((hBW.trans (hX.mono (by omega))).mono hB) (by have := hX.size; omega)) (Nat.le_refl _) (by omega) hsm.1 (fun x hx => (hsm.2 x (List.mem_of_mem_take hx)).1) hkx.1 s1 s2 s3 s4 (HF.out.2.2.2.2.2.2.2.1.below (hBW.trans (hX.mono (by omega))))
        rw [hlk] at q
        exact q : Calls Tryd.prog 10 #[.agg #[.int .i64 se, .int .i64 sh, .int .i64 pl, .string fi, .slice A k.1 cap], .string tk] X fun e w' => e = .returned (.string ⟨(messageL se sh fi (ch.take k.1) tk).toArray⟩) ∧ Below X.heap.size X w')
      have hve := fun (X : World) (hX : Below W.heap.size W X) => verify_any (ownerL fi (ch.take k.1)) ⟨(messageL se sh fi (ch.take k.1) tk).toArray⟩ (AS k.1) sg (cs k.1) X X.heap.size (hc3.keep ((hBW.trans (hX.mono (by omega))).mono hB) (by have := hX.size; omega)) (Nat.le_refl _) (by omega) hkx.2.2 (by rw [Lib.size_mk]; unfold messageL listL; rw [sumL_len]; omega) (HF.out.2.2.2.2.2.2.2.1.below (hBW.trans (hX.mono (by omega))))
      have c30 := b3.cell 0
      have c31 := b3.cell 1
      have c32 := b3.cell 2
      have c33 := b3.cell 3
      have c34 := b3.cell 4
      have l3 := b3.lt
      have c40 := b4.cell 0
      have c41 := b4.cell 1
      have l4 := b4.lt
      have cR := bR.cell 0
      have lR := bR.lt
      have fR := bR.free 0
      simp only [htk, hsg]
      gi_wp2
      cases hu : usedB fi (ch.take k.1) tk with
      | true =>
        rw [hu] at hus hst
        have HC := Lib.hid (And.intro hus (And.intro how (And.intro hme (And.intro hve (And.intro (show stepB se sh fi ch k.1 = false by rw [hst]; rfl) (And.intro bR hBW))))))
        clear hus how hme hve hst hu hc3 hkx hsm hfm
        refine region_planx_round W [([0, 1, 2], [3]), ([4, 5, 7, 8, 9, 11, 12], [6, 10, 13]), ([14, 15], [])] (Below.refl _ _) (by kernel_rfl) (by kernel_rfl) (by kernel_rfl) (fun u => ?_)
        refine plan_take (fun K9 h9 => ?_)
        simp only [List.map_cons, List.map_nil, pickO, List.getD_cons_zero, List.getD_cons_succ]
        repeat (go_big_quiet_step (fail))
        refine wpQuiet_nil (h9 _ ?_)
        clear h9 K9
        refine plan_run (fun K9 h9 => ?_)
        simp only [pickO, List.getD_cons_zero, List.getD_cons_succ]
        go_wp2_with (go_at_call 17; refine Calls.mono (HC.out.1 _ (below_ext W _)) ?_; rintro e w' ⟨rfl, hbb⟩; obtain ⟨u, rfl⟩ := ext_more hbb; clear hbb)
        refine h9 _ _ mem_ext ?_
        clear h9 K9
        refine plan_next ?_
        refine plan_take (fun K9 h9 => ?_)
        simp only [List.map_cons, List.map_nil, pickO, List.getD_cons_zero, List.getD_cons_succ]
        repeat (go_big_quiet_step (fail))
        refine wpQuiet_nil (h9 _ ?_)
        clear h9 K9
        refine plan_run (fun K9 h9 => ?_)
        simp only [pickO, List.getD_cons_zero, List.getD_cons_succ]
        go_wp2_with fail
        refine h9 _ _ mem_ext ?_
        clear h9 K9
        refine plan_run (fun K9 h9 => ?_)
        simp only [pickO, List.getD_cons_zero, List.getD_cons_succ]
        go_wp2_with fail
        refine h9 _ _ mem_ext ?_
        clear h9 K9
        refine plan_run (fun K9 h9 => ?_)
        simp only [pickO, List.getD_cons_zero, List.getD_cons_succ]
        go_wp2_with fail
        refine h9 _ _ mem_ext ?_
        clear h9 K9
        refine plan_next ?_
        refine plan_take (fun K9 h9 => ?_)
        simp only [List.map_cons, List.map_nil, pickO, List.getD_cons_zero, List.getD_cons_succ]
        repeat (go_big_quiet_step (fail))
        refine wpQuiet_nil (h9 _ ?_)
        clear h9 K9
        refine plan_next (plan_end ?_)
        gi_wp2
        exact ⟨(keepsFrom_below (below_ext W u)).trans ((KeepsOthers.setCell _ _ _).from _), ⟨rfl, k.1, hk2, HC.out.2.2.2.2.1⟩, (HC.out.2.2.2.2.2.1.below (below_ext W u)).set_ 0 (.bool false), (HC.out.2.2.2.2.2.2.trans ((below_ext W u).mono HC.out.2.2.2.2.2.2.size)).setCell (by simp) _⟩
      | false =>
        rw [hu] at hus hst
        cases hv : verifyL (ownerL fi (ch.take k.1)).data.toList (messageL se sh fi (ch.take k.1) tk) (bytesL sg) with
        | false =>
          rw [hv] at hve hst
          have HC := Lib.hid (And.intro hus (And.intro how (And.intro hme (And.intro hve (And.intro (show stepB se sh fi ch k.1 = false by rw [hst]; rfl) (And.intro bR hBW))))))
          clear hus how hme hve hst hu hc3 hkx hsm hfm hv
          generalize ownerL fi (ch.take k.1) = OW at *
          generalize messageL se sh fi (ch.take k.1) tk = MS at *
          refine region_planx_round W [([0, 1, 2], [3]), ([4, 5, 7, 8, 9, 11, 12], [6, 10, 13]), ([14, 15], [])] (Below.refl _ _) (by kernel_rfl) (by kernel_rfl) (by kernel_rfl) (fun u => ?_)
          refine plan_take (fun K9 h9 => ?_)
          simp only [List.map_cons, List.map_nil, pickO, List.getD_cons_zero, List.getD_cons_succ]
          repeat (go_big_quiet_step (fail))
          refine wpQuiet_nil (h9 _ ?_)
          clear h9 K9
          refine plan_run (fun K9 h9 => ?_)
          simp only [pickO, List.getD_cons_zero, List.getD_cons_succ]
          go_wp2_with (go_at_call 17; refine Calls.mono (HC.out.1 _ (below_ext W _)) ?_; rintro e w' ⟨rfl, hbb⟩; obtain ⟨u, rfl⟩ := ext_more hbb; clear hbb)
          refine h9 _ _ mem_ext ?_
          clear h9 K9
          refine plan_next ?_
          refine plan_take (fun K9 h9 => ?_)
          simp only [List.map_cons, List.map_nil, pickO, List.getD_cons_zero, List.getD_cons_succ]
          repeat (go_big_quiet_step (fail))
          refine wpQuiet_nil (h9 _ ?_)
          clear h9 K9
          refine plan_run (fun K9 h9 => ?_)
          simp only [pickO, List.getD_cons_zero, List.getD_cons_succ]
          go_wp2_with (go_at_call 9; refine Calls.mono (HC.out.2.1 _ (below_ext W _)) ?_; rintro e w' ⟨rfl, hbb⟩; obtain ⟨u, rfl⟩ := ext_more hbb; clear hbb)
          refine h9 _ _ mem_ext ?_
          clear h9 K9
          refine plan_run (fun K9 h9 => ?_)
          simp only [pickO, List.getD_cons_zero, List.getD_cons_succ]
          go_wp2_with (go_at_call 10; refine Calls.mono (HC.out.2.2.1 _ (below_ext W _)) ?_; rintro e w' ⟨rfl, hbb⟩; obtain ⟨u, rfl⟩ := ext_more hbb; clear hbb)
          refine h9 _ _ mem_ext ?_
          clear h9 K9
          refine plan_run (fun K9 h9 => ?_)
          simp only [pickO, List.getD_cons_zero, List.getD_cons_succ]
          go_wp2_with (go_at_call 8; refine Calls.mono (HC.out.2.2.2.1 _ (below_ext W _)) ?_; rintro e w' ⟨rfl, hbb⟩; obtain ⟨u, rfl⟩ := ext_more hbb; clear hbb)
          refine h9 _ _ mem_ext ?_
          clear h9 K9
          refine plan_next ?_
          refine plan_take (fun K9 h9 => ?_)
          simp only [List.map_cons, List.map_nil, pickO, List.getD_cons_zero, List.getD_cons_succ]
          repeat (go_big_quiet_step (fail))
          refine wpQuiet_nil (h9 _ ?_)
          clear h9 K9
          refine plan_next (plan_end ?_)
          gi_wp2
          exact ⟨(keepsFrom_below (below_ext W u)).trans ((KeepsOthers.setCell _ _ _).from _), ⟨rfl, k.1, hk2, HC.out.2.2.2.2.1⟩, (HC.out.2.2.2.2.2.1.below (below_ext W u)).set_ 0 (.bool false), (HC.out.2.2.2.2.2.2.trans ((below_ext W u).mono HC.out.2.2.2.2.2.2.size)).setCell (by simp) _⟩
        | true =>
          rw [hv] at hve hst
          have HC := Lib.hid (And.intro hus (And.intro how (And.intro hme (And.intro hve (And.intro (show stepB se sh fi ch k.1 = true by rw [hst]; rfl) (And.intro bR hBW))))))
          clear hus how hme hve hst hu hc3 hkx hsm hfm hv
          generalize ownerL fi (ch.take k.1) = OW at *
          generalize messageL se sh fi (ch.take k.1) tk = MS at *
          refine region_planx_round W [([0, 1, 2], [3]), ([4, 5, 7, 8, 9, 11, 12], [6, 10, 13]), ([14, 15], [])] (Below.refl _ _) (by kernel_rfl) (by kernel_rfl) (by kernel_rfl) (fun u => ?_)
          refine plan_take (fun K9 h9 => ?_)
          simp only [List.map_cons, List.map_nil, pickO, List.getD_cons_zero, List.getD_cons_succ]
          repeat (go_big_quiet_step (fail))
          refine wpQuiet_nil (h9 _ ?_)
          clear h9 K9
          refine plan_run (fun K9 h9 => ?_)
          simp only [pickO, List.getD_cons_zero, List.getD_cons_succ]
          go_wp2_with (go_at_call 17; refine Calls.mono (HC.out.1 _ (below_ext W _)) ?_; rintro e w' ⟨rfl, hbb⟩; obtain ⟨u, rfl⟩ := ext_more hbb; clear hbb)
          refine h9 _ _ mem_ext ?_
          clear h9 K9
          refine plan_next ?_
          refine plan_take (fun K9 h9 => ?_)
          simp only [List.map_cons, List.map_nil, pickO, List.getD_cons_zero, List.getD_cons_succ]
          repeat (go_big_quiet_step (fail))
          refine wpQuiet_nil (h9 _ ?_)
          clear h9 K9
          refine plan_run (fun K9 h9 => ?_)
          simp only [pickO, List.getD_cons_zero, List.getD_cons_succ]
          go_wp2_with (go_at_call 9; refine Calls.mono (HC.out.2.1 _ (below_ext W _)) ?_; rintro e w' ⟨rfl, hbb⟩; obtain ⟨u, rfl⟩ := ext_more hbb; clear hbb)
          refine h9 _ _ mem_ext ?_
          clear h9 K9
          refine plan_run (fun K9 h9 => ?_)
          simp only [pickO, List.getD_cons_zero, List.getD_cons_succ]
          go_wp2_with (go_at_call 10; refine Calls.mono (HC.out.2.2.1 _ (below_ext W _)) ?_; rintro e w' ⟨rfl, hbb⟩; obtain ⟨u, rfl⟩ := ext_more hbb; clear hbb)
          refine h9 _ _ mem_ext ?_
          clear h9 K9
          refine plan_run (fun K9 h9 => ?_)
          simp only [pickO, List.getD_cons_zero, List.getD_cons_succ]
          go_wp2_with (go_at_call 8; refine Calls.mono (HC.out.2.2.2.1 _ (below_ext W _)) ?_; rintro e w' ⟨rfl, hbb⟩; obtain ⟨u, rfl⟩ := ext_more hbb; clear hbb)
          refine h9 _ _ mem_ext ?_
          clear h9 K9
          refine plan_next ?_
          refine plan_take (fun K9 h9 => ?_)
          simp only [List.map_cons, List.map_nil, pickO, List.getD_cons_zero, List.getD_cons_succ]
          repeat (go_big_quiet_step (fail))
          refine wpQuiet_nil (h9 _ ?_)
          clear h9 K9
          refine plan_next (plan_end ?_)
          gi_wp2
          exact ⟨keepsFrom_below (below_ext W u), (below_ext W u).mono hz3, fun k' hk' => (List.mem_append.1 hk').elim (i1 k') (fun h => by have e : k' = k := (by simpa using h); rw [e]; exact HC.out.2.2.2.2.1), i3.trans ((below_ext W u).mono hz3)⟩
    case done =>
      rintro D ys W hD hS ⟨i1, i3⟩ hK
      have bR := hbr.below i3
      have cR := bR.cell 0
      have lR := bR.lt
      have fR := bR.free 0
      gi_wp2
      have hK' := (KeepsOthers.setCell W ⟨w.heap.size + 1, 0, none⟩ (.bool true)).same D _ hK rfl
      have hvt : validB se sh pl fi ch = true := by
        unfold validB
        rw [HF.out.2.2.2.2.2.2.2.2, Bool.true_and, List.all_eq_true]
        intro k hk
        rw [← hS] at hk
        obtain ⟨y, hy, rfl⟩ := List.mem_map.1 hk
        exact i1 y hy
      have hbw : Below w.heap.size w (W.setCell ⟨w.heap.size + 1, 0, none⟩ (.bool true)) := (hw2.trans (i3.mono (by omega))).setCell (by simp) _
      refine ⟨by simp, .inl ⟨_, _, rfl, run_takeDeferred hK', ?_⟩⟩
      have hbk := bk_own (β := Unit) _ _ _ () _ _ (some D) (bR.set_ 0 (.bool true)) (grownBy_putObj' _ D (.deferred none)) (fun r e => by cases e; exact ⟨_, hK', rfl⟩)
      exact ⟨_, results_cell Tryd.results7 (p := ⟨w.heap.size + 1, 0, none⟩) rfl (run_loadVar_bool Tryd.underlying4 (hbk.cell 0)), by rw [hvt]; rfl, hbw.trans (belowK_b (w := w) (Nat.le_refl _) _ D _ _ (by omega) hK' rfl rfl)⟩
    case stop =>
      rintro D c pre W hD _ ⟨⟨rfl, k, hk, hbad⟩, bR, hb⟩ hK
      have cR := bR.cell 0
      have lR := bR.lt
      have fR := bR.free 0
      gi_wp2
      have hK' := hK
      have hvt : validB se sh pl fi ch = false := by
        unfold validB
        have : (List.range ch.length).all (stepB se sh fi ch) = false := all_badO (k := k) (x := k) (by rw [List.getElem?_range hk]) hbad
        rw [this, Bool.and_false]
      refine ⟨by simp, .inl ⟨_, _, rfl, run_takeDeferred hK', ?_⟩⟩
      have hbk := bk_own (β := Unit) _ _ _ () _ _ (some D) bR (grownBy_putObj' _ D (.deferred none)) (fun r e => by cases e; exact ⟨_, hK', rfl⟩)
      exact ⟨_, results_cell Tryd.results7 (p := ⟨w.heap.size + 1, 0, none⟩) rfl (run_loadVar_bool Tryd.underlying4 (hbk.cell 0)), by rw [hvt]; rfl, hb.trans (belowK_b (w := w) (Nat.le_refl _) _ D _ _ (by omega) hK' rfl rfl)⟩
end Go.Proofs.YtojkpoikamcgkaaDoor
