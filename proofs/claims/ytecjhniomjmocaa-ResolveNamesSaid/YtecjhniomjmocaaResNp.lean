/- ResolveNames, in plain words: with the letter z in front of all names the policy and the faults are the same. No step of the program is taken here. -/
import Derived.Test.YtecjhniomjmocaaResO
import Derived.Test.YtecjhniomjmocaaResX
namespace Go.Proofs.Ytecjhniomjmocaa
open Go.RowKit
set_option linter.unusedVariables false
set_option linter.unusedSimpArgs false

def zC : ByteArray := ⟨#[122]⟩
def zB (s : ByteArray) : ByteArray := zC ++ s
def levelB : ByteArray := ⟨#[108, 101, 118, 101, 108]⟩
def blockB : ByteArray := ⟨#[98, 108, 111, 99, 107]⟩
def dtail : List UInt8 → List UInt8
  | [] => []
  | c :: r => if c = 46 then 46 :: 122 :: r else c :: dtail r
/-- The name with z in front, and behind its first dot. -/
def dotP (s : ByteArray) : ByteArray := ⟨(122 :: dtail s.data.toList).toArray⟩
def hasDot (s : ByteArray) : Bool := decide (46 ∈ s.data.toList)
theorem dtail_inj : ∀ {s t : List UInt8}, dtail s = dtail t → s = t
  | [], [], _ => rfl
  | [], c :: r, h => by unfold dtail at h; split at h <;> cases h
  | c :: r, [], h => by unfold dtail at h; split at h <;> cases h
  | c :: r, d :: q, h => by
    unfold dtail at h
    split at h
    · rename_i hc
      split at h
      · rename_i hd
        simp only [List.cons.injEq, true_and] at h
        rw [hc, hd, h]
      · rename_i hd
        simp only [List.cons.injEq] at h
        exact absurd h.1.symm hd
    · rename_i hc
      split at h
      · simp only [List.cons.injEq] at h
        exact absurd h.1 hc
      · simp only [List.cons.injEq] at h
        rw [h.1, dtail_inj h.2]
theorem dtail_app : ∀ {a b : List UInt8}, 46 ∉ a → dtail (a ++ 46 :: b) = a ++ 46 :: 122 :: b
  | [], b, _ => by simp [dtail]
  | c :: r, b, h => by
    simp only [List.mem_cons, not_or] at h
    rw [List.cons_append, dtail, if_neg (fun e => h.1 e.symm), dtail_app h.2, List.cons_append]
theorem dtail_none : ∀ {a : List UInt8}, 46 ∉ a → dtail a = a
  | [], _ => rfl
  | c :: r, h => by
    simp only [List.mem_cons, not_or] at h
    rw [dtail, if_neg (fun e => h.1 e.symm), dtail_none h.2]
theorem data_inj {s t : ByteArray} (h : s.data.toList = t.data.toList) : s = t := by
  cases s; cases t
  simp only at h
  rw [Array.toList_inj.1 h]
theorem dotP_inj {s t : ByteArray} (h : dotP s = dotP t) : s = t := by
  unfold dotP at h
  simp only [ByteArray.mk.injEq] at h
  have := congrArg Array.toList h
  simp only [List.cons.injEq, true_and] at this
  exact data_inj (dtail_inj this)
theorem zB_inj {s t : ByteArray} (h : zB s = zB t) : s = t := by
  have := congrArg (fun x => x.data.toList) h
  simp only [zB, zC, ByteArray.data_append, Array.toList_append, List.cons_append, List.nil_append, List.cons.injEq, true_and] at this
  exact data_inj this
theorem dotP_none {s : ByteArray} (h : hasDot s = false) : dotP s = zB s := by
  unfold hasDot at h
  refine data_inj ?_
  have h' : 46 ∉ s.data.toList := of_decide_eq_false h
  simp only [dotP, zB, zC, ByteArray.data_append, Array.toList_append, List.cons_append, List.nil_append, List.cons.injEq, true_and]
  exact dtail_none h'
theorem dotP_at {s : ByteArray} {i : Nat} (hi : i < s.size) (h : s.data.toList[i]? = some 46) (h0 : 46 ∉ s.data.toList.take i) : zC ++ s.extract 0 (i + 1) ++ zC ++ s.extract (i + 1) s.size = dotP s := by
  have hl : i < s.data.toList.length := by simpa using hi
  have e : s.data.toList = s.data.toList.take i ++ 46 :: s.data.toList.drop (i + 1) := by
    obtain ⟨h1, h2⟩ := List.getElem?_eq_some_iff.1 h
    rw [← h2]
    conv => lhs; rw [← List.take_append_drop i s.data.toList, List.drop_eq_getElem_cons h1]
  refine data_inj ?_
  have e1 : (s.extract 0 (i + 1)).data.toList = s.data.toList.take i ++ [46] := by
    rw [ByteArray.data_extract, Array.toList_extract]
    simp only [List.extract_eq_take_drop, List.drop_zero, Nat.sub_zero]
    rw [List.take_add_one, h]
    rfl
  have e2 : (s.extract (i + 1) s.size).data.toList = s.data.toList.drop (i + 1) := by
    rw [ByteArray.data_extract, Array.toList_extract]
    simp only [List.extract_eq_take_drop]
    rw [List.take_of_length_le]
    rw [List.length_drop]
    exact Nat.le_refl _
  simp only [ByteArray.data_append, Array.toList_append, e1, e2]
  show [122] ++ (s.data.toList.take i ++ [46]) ++ [122] ++ s.data.toList.drop (i + 1) = 122 :: dtail s.data.toList
  rw [e, dtail_app h0]
  simp only [List.append_assoc, List.cons_append, List.nil_append]
  rw [← e]
theorem dotP_name {l n : ByteArray} (h : hasDot l = false) : dotP (l ++ dotB ++ n) = zB l ++ dotB ++ zB n := by
  have h' : 46 ∉ l.data.toList := of_decide_eq_false h
  refine data_inj ?_
  have e : (l ++ dotB ++ n).data.toList = l.data.toList ++ 46 :: n.data.toList := by
    simp only [ByteArray.data_append, Array.toList_append, dotB, List.append_assoc, List.cons_append, List.nil_append]
  show 122 :: dtail (l ++ dotB ++ n).data.toList = _
  rw [e, dtail_app h']
  simp only [zB, zC, ByteArray.data_append, Array.toList_append, dotB, List.append_assoc, List.cons_append, List.nil_append]
theorem hasDot_app (a b : ByteArray) : hasDot (a ++ b) = (hasDot a || hasDot b) := by
  unfold hasDot
  simp only [ByteArray.data_append, Array.toList_append, List.mem_append]
  by_cases h1 : 46 ∈ a.data.toList <;> by_cases h2 : 46 ∈ b.data.toList <;> simp [h1, h2]

/-! ### the renamed things -/
def zT (t : Ts) : Ts := (t.1, t.2.1, if t.2.2.1 ≠ noName ∧ t.1 = levelB then zB t.2.2.1 else if t.2.2.1 ≠ noName ∧ t.1 = blockB then dotP t.2.2.1 else t.2.2.1, t.2.2.2.1, t.2.2.2.2)
def zI (x : It) : It := (x.1, x.2.1, x.2.2.1.map (·.map zT), x.2.2.2)
def zBl (b : Bl) : Bl := (zB b.1, b.2)
def zAr (b : Ar) : Ar := (zB b.1, b.2)
def zLe (l : Le) : Le := (zB l.1, l.2.1, l.2.2.1.map zBl, l.2.2.2.1.map zAr, l.2.2.2.2)
def strangeL (l : Le) : Bool := hasDot l.1 || l.2.2.1.any (fun b => hasDot b.1) || l.2.2.2.1.any (fun b => hasDot b.1)
def strangeB (lh : List Le) : Bool := lh.any strangeL
theorem idxB_map {f : ByteArray → ByteArray} (hf : ∀ s t, f s = f t → s = t) (s : ByteArray) : ∀ L : List ByteArray, idxB (f s) (L.map f) = idxB s L
  | [] => rfl
  | x :: L => by
    simp only [List.map_cons, idxB, idxB_map hf s L]
    by_cases h : s = x
    · subst h; simp
    · rw [if_neg h, if_neg (fun e => h (hf _ _ e))]
theorem lvls_z (lh : List Le) : lvlsN (lh.map zLe) = (lvlsN lh).map zB := by
  unfold lvlsN
  rw [List.map_map, List.map_map]
  rfl
theorem blk_z {l : Le} (h : hasDot l.1 = false) : blkN (zLe l) = (blkN l).map dotP := by
  unfold blkN zLe
  simp only [List.map_map, List.map_append]
  congr 1
  · refine List.map_congr_left fun b _ => ?_
    exact (dotP_name h).symm
  · refine List.map_congr_left fun b _ => ?_
    exact (dotP_name h).symm
theorem blks_z : ∀ {lh : List Le}, (∀ l ∈ lh, hasDot l.1 = false) → blksN (lh.map zLe) = (blksN lh).map dotP
  | [], _ => rfl
  | l :: r, h => by
    have ih := blks_z (lh := r) fun l hl => h l (by simp [hl])
    have e : ∀ (a : Le) (q : List Le), blksN (a :: q) = blkN a ++ blksN q := fun a q => by unfold blksN; simp
    rw [List.map_cons, e, e, blk_z (h l (by simp)), ih, List.map_append]
/-- The names of a hall with z in front. -/
abbrev zN (L : Nm) : Nm := (L.1.map zB, L.2.map dotP)
theorem zB_ne (s : ByteArray) : zB s ≠ noName := fun h => by
  have := congrArg ByteArray.size h
  simp only [zB, ByteArray.size_append] at this
  have e1 : zC.size = 1 := rfl
  have e2 : noName.size = 0 := rfl
  omega
theorem dotP_ne (s : ByteArray) : dotP s ≠ noName := fun h => by
  have := congrArg (fun x => x.data.toList) h
  simp [dotP, noName] at this
theorem attr_level {a : Nat} {s : ByteArray} (h : idxB s attrsN = some a) : (s = levelB ↔ a = 4) ∧ (s = blockB ↔ a = 5) := by
  unfold attrsN at h
  simp only [idxB] at h
  repeat' split at h
  all_goals simp only [Option.map_some, Option.map_none, Option.some.injEq, reduceCtorEq] at h
  all_goals (subst h; rename_i e; subst e; constructor <;> decide)
def znm (s nn : ByteArray) : ByteArray := if nn ≠ noName ∧ s = levelB then zB nn else if nn ≠ noName ∧ s = blockB then dotP nn else nn
theorem znm_none (s nn : ByteArray) : znm s nn = noName ↔ nn = noName := by
  unfold znm
  split
  · rename_i h; exact ⟨fun e => absurd e (zB_ne _), fun e => absurd e h.1⟩
  · split
    · rename_i h; exact ⟨fun e => absurd e (dotP_ne _), fun e => absurd e h.1⟩
    · exact Iff.rfl
theorem znm_idx {L : Nm} {s nn : ByteArray} {a : Nat} (ha : idxB s attrsN = some a) (hn : nn ≠ noName) : idxB (znm s nn) (tableN (zN L) a) = idxB nn (tableN L a) := by
  obtain ⟨h4, h5⟩ := attr_level ha
  unfold znm tableN
  by_cases e4 : a = 4
  · rw [if_pos ⟨hn, h4.2 e4⟩, if_pos e4, if_pos e4, idxB_map (fun _ _ => zB_inj)]
  · rw [if_neg (fun h => e4 (h4.1 h.2)), if_neg e4, if_neg e4]
    by_cases e5 : a = 5
    · rw [if_pos ⟨hn, h5.2 e5⟩, if_pos e5, if_pos e5, idxB_map (fun _ _ => dotP_inj)]
    · rw [if_neg (fun h => e5 (h5.1 h.2)), if_neg e5, if_neg e5]
theorem num_z (L : Nm) (t : Ts) : numP (zN L) (zT t) = numP L t := by
  obtain ⟨s, op, nn, n, att⟩ := t
  show numP (zN L) (s, op, znm s nn, n, att) = _
  unfold numP
  cases ha : idxB s attrsN with
  | none => rfl
  | some a =>
    simp only [ne_eq, znm_none]
    by_cases hn : nn = noName
    · simp only [hn, if_true]
    · simp only [hn, if_false, znm_idx ha hn]
theorem badT_z (L : Nm) : ∀ l : List Ts, badT (zN L) (l.map zT) = badT L l
  | [] => rfl
  | t :: l => by
    simp only [List.map_cons, badT, num_z, badT_z L l]
    rfl
theorem badW_z (L : Nm) : ∀ ws : List (List Ts), badW (zN L) (ws.map (·.map zT)) = badW L ws
  | [] => rfl
  | l :: r => by simp only [List.map_cons, badW, badT_z, badW_z L r]
theorem next_z (L : Nm) (out : List Zn) (t : Ts) : nextZ (zN L) out (zT t) = nextZ L out t := by
  unfold nextZ
  simp only [num_z]
  rfl
theorem fold_z (L : Nm) : ∀ (l : List Ts) (out : List Zn), (l.map zT).foldl (nextZ (zN L)) out = l.foldl (nextZ L) out
  | [], out => rfl
  | t :: l, out => by simp only [List.map_cons, List.foldl_cons, next_z, fold_z L l]
theorem zonesP_z (L : Nm) (l : List Ts) : zonesP (zN L) (l.map zT) = zonesP L l := fold_z L l [limZ]
theorem zonesI_z (L : Nm) (x : It) : zonesI (zN L) (zI x) = zonesI L x := by
  unfold zonesI zI
  simp only [List.map_eq_nil_iff]
  split
  · rfl
  · rw [List.flatMap_map]
    have e : (fun l => zonesP (zN L) (l.map zT)) = zonesP L := funext fun l => zonesP_z L l
    show x.2.2.1.flatMap (fun l => zonesP (zN L) (l.map zT)) = _
    rw [e]
theorem fault_z (L : Nm) (tw : Bool) (x : It) : faultI (zN L) tw (zI x) = faultI L tw x := by
  unfold faultI
  rw [zonesI_z]
  have e1 : (zI x).1 = x.1 := rfl
  have e2 : (zI x).2.2.1 = x.2.2.1.map (·.map zT) := rfl
  have e3 : inRangeP (zI x) = inRangeP x := rfl
  rw [e1, e2, e3, badW_z]
theorem rule_z (L : Nm) (x : It) : ruleI (zN L) (zI x) = ruleI L x := by
  unfold ruleI
  rw [zonesI_z]
  rfl
theorem twice_z (l : List It) (i : Nat) (x : It) : twiceP (l.map zI) i (zI x) = twiceP l i x := by
  unfold twiceP
  rw [← List.map_take, List.any_map]
  rfl
theorem faultsTo_z (L : Nm) (l : List It) : ∀ i, faultsTo (zN L) (l.map zI) i = faultsTo L l i
  | 0 => rfl
  | i + 1 => by
    rw [faultsTo, faultsTo, faultsTo_z L l i, List.getElem?_map]
    cases l[i]? with
    | none => rfl
    | some x =>
      simp only [Option.map_some, fault_z, twice_z]
      rfl
theorem rulesTo_z (L : Nm) (l : List It) : ∀ i, rulesTo (zN L) (l.map zI) i = rulesTo L l i
  | 0 => rfl
  | i + 1 => by
    rw [rulesTo, rulesTo, rulesTo_z L l i, List.getElem?_map]
    cases l[i]? with
    | none => rfl
    | some x => simp only [Option.map_some, fault_z, twice_z, rule_z]
theorem faultsP_z (L : Nm) (l : List It) : faultsP (zN L) (l.map zI) = faultsP L l := by
  unfold faultsP
  rw [List.length_map, faultsTo_z, List.getElem?_map]
  cases l[200]? <;> rfl
theorem rulesP_z (L : Nm) (l : List It) : rulesP (zN L) (l.map zI) = rulesP L l := by
  unfold rulesP
  rw [faultsP_z, List.length_map, rulesTo_z]
/-- The law in plain words. -/
theorem names_z {lh : List Le} (h : strangeB lh = false) (l : List It) : rulesP (lvlsN (lh.map zLe), blksN (lh.map zLe)) (l.map zI) = rulesP (lvlsN lh, blksN lh) l ∧ faultsP (lvlsN (lh.map zLe), blksN (lh.map zLe)) (l.map zI) = faultsP (lvlsN lh, blksN lh) l := by
  have hd : ∀ l ∈ lh, hasDot l.1 = false := fun l hl => by
    unfold strangeB at h
    rw [List.any_eq_false] at h
    have := h l hl
    unfold strangeL at this
    simp only [Bool.or_eq_true, not_or, Bool.not_eq_true] at this
    exact this.1.1
  rw [lvls_z, blks_z hd]
  exact ⟨rulesP_z (lvlsN lh, blksN lh) l, faultsP_z (lvlsN lh, blksN lh) l⟩
end Go.Proofs.Ytecjhniomjmocaa
