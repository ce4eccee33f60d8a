/- Layer 13 (decide): how the laws' arguments are opened, and the contracts as the laws use them. -/
import Derived.Test.YtmklcfmdcfbpeaaDecH
import Derived.Test.YtmklcfmdcfbpeaaDecU
import Derived.Test.YtmklcfmdcfbpeaaDecF
import Derived.Test.YtmklcfmdcfbpeaaDecI
namespace Go.Proofs.Ytmklcfmdcfbpeaa
open Go.RowKit
set_option linter.unusedVariables false
set_option linter.unusedSimpArgs false

theorem own : ownKnob Try.prog.godebug = none := by kernel_rfl
theorem laidOut : laidOutB Try.prog = true := by kernel_rfl
theorem opensI : Opens Try.prog 3 tInt := opens_int Try.underlying3 (by kernel_rfl)
theorem opensS : Opens Try.prog 9 tStr := opens_str Try.underlying9 (by kernel_rfl)
theorem opensRg : Opens Try.prog 42 tRg := opens_struct Try.underlying42 (by kernel_rfl) (.cons rfl opensI (.one rfl opensI))
theorem opensZn : Opens Try.prog 44 tZn := opens_arr Try.underlying44 (by kernel_rfl) opensRg
theorem opensZs : Opens Try.prog 30 (tSlice tZn) := opens_slice Try.underlying30 (by kernel_rfl) (by decide) opensZn
theorem opensRat : Opens Try.prog 32 tRat := opens_struct Try.underlying32 (by kernel_rfl) (.cons rfl opensI (.one rfl opensI))
theorem opensRl : Opens Try.prog 34 tRl := opens_struct Try.underlying34 (by kernel_rfl) (.cons rfl opensI (.cons rfl opensS (.cons rfl opensZs (.cons rfl opensI (.cons rfl opensRat (.one rfl opensRat))))))
theorem opensRls : Opens Try.prog 22 (tSlice tRl) := opens_slice Try.underlying22 (by kernel_rfl) (by decide) opensRl
theorem opensPol : Opens Try.prog 24 (tSlice tRl) := opens_struct Try.underlying24 (by kernel_rfl) (.one rfl opensRls)
theorem opensFc : Opens Try.prog 26 tFc := opens_arr Try.underlying26 (by kernel_rfl) opensI

theorem pol_of {w : World} {cs : Array Value} {y : List Rl} (h : (tSlice tRl).rd w w.heap.size cs.toList y) : ∃ A cap, Value.agg cs = .agg #[.slice A y.length cap] ∧ y.length ≤ cap ∧ cap ≤ maxLen ∧ Elems tRl w w.heap.size A y := by
  obtain ⟨A, cap, e, h1, h2, h3⟩ := h
  obtain ⟨l⟩ := cs
  simp only at e
  subst e
  exact ⟨A, cap, rfl, h1, h2, h3⟩
theorem fac_of {w : World} {cs : Array Value} {y : Fc} (h : tFc.rd w w.heap.size cs.toList y) : Value.agg cs = .agg (fcV y) ∧ y.length = 10 ∧ ∀ x ∈ y, fits x := by
  obtain ⟨h1, h2, h3⟩ := fc_cells h
  obtain ⟨l⟩ := cs
  simp only at h1
  subst h1
  exact ⟨rfl, h2, h3⟩
theorem rule_of {w : World} {cs : Array Value} {y : Rl} (h : tRl.rd w w.heap.size cs.toList y) : ∃ kd nm AZ zs zc num rn rd sn sd, y = (kd, nm, zs, num, (rn, rd), (sn, sd)) ∧ Value.agg cs = .agg #[.int .i64 kd, .string nm, .slice AZ zs.length zc, .int .i64 num, .int .i64 rn, .int .i64 rd, .int .i64 sn, .int .i64 sd] ∧
    nm.size ≤ maxLen ∧ zs.length ≤ zc ∧ zc ≤ maxLen ∧ Elems tZn w w.heap.size AZ zs ∧ fits kd ∧ fits num ∧ fits rn ∧ fits rd ∧ fits sn ∧ fits sd := by
  obtain ⟨kd, nm, zs, num, ⟨rn, rd⟩, ⟨sn, sd⟩⟩ := y
  obtain ⟨c1, r1, e, ⟨rfl, h1⟩, ⟨c2, r2, rfl, ⟨rfl, h2⟩, ⟨c3, r3, rfl, ⟨AZ, zc, rfl, h3, h4, h5⟩, ⟨c4, r4, rfl, ⟨rfl, h6⟩, ⟨c5, r5, rfl, ⟨a1, b1, rfl, ⟨rfl, h7⟩, ⟨rfl, h8⟩⟩, ⟨a2, b2, rfl, ⟨rfl, h9⟩, ⟨rfl, h10⟩⟩⟩⟩⟩⟩⟩ := h
  obtain ⟨l⟩ := cs
  simp only at e
  subst e
  exact ⟨kd, nm, AZ, zs, zc, num, rn, rd, sn, sd, rfl, rfl, h2, h3, h4, h5, h1, h6, h7, h8, h9, h10⟩

/-- A decision's cells, written out. -/
theorem dcs_lit (s : JS) : ∃ ok tg si lim price fn fd tn td cn cd sn sd rn rd y, dcs s = #[.bool ok, .bool tg, .bool si, .int .i64 lim, .int .i64 price, .int .i64 fn, .int .i64 fd, .int .i64 tn, .int .i64 td, .int .i64 cn, .int .i64 cd, .int .i64 sn, .int .i64 sd, .int .i64 rn, .int .i64 rd, .int .i64 y] := ⟨_, _, _, _, _, _, _, _, _, _, _, _, _, _, _, _, rfl⟩

section
variable {A : Option Addr} {rs : List Rl} {cap : Nat} {f : Fc} {w : World}
/-- The contracts, in every world that continues w. -/
theorem few_in (h : Elems tRl w w.heap.size A rs) (m : Nat) (hm : m ≤ 1000) (r : Bool) (hr : fewP rs m = r) : ∀ X, Below w.heap.size w X → Calls Try.prog 11 #[.agg #[.slice A rs.length cap], .int .i64 m] X fun e w' => e = .returned (.bool r) ∧ Below X.heap.size X w' := fun X hX => by
  have := rfew_any A rs cap rs.length m X w.heap.size (h.keep hX (Nat.le_refl _)) hX.size rfl hm
  rwa [hr] at this
theorem few_60 (h : Elems tRl w w.heap.size A rs) (r : Bool) (hr : fewP rs 60 = r) : ∀ X, Below w.heap.size w X → Calls Try.prog 11 #[.agg #[.slice A rs.length cap], .int .i64 60] X fun e w' => e = .returned (.bool r) ∧ Below X.heap.size X w' := few_in h 60 (by omega) r hr
theorem few_210 (h : Elems tRl w w.heap.size A rs) (r : Bool) (hr : fewP rs 210 = r) : ∀ X, Below w.heap.size w X → Calls Try.prog 11 #[.agg #[.slice A rs.length cap], .int .i64 210] X fun e w' => e = .returned (.bool r) ∧ Below X.heap.size X w' := few_in h 210 (by omega) r hr
theorem dec_in (h : Elems tRl w w.heap.size A rs) (hl : rs.length ≤ 1000) (hf : f.length = 10) (C : Array Value) (hC : dcs (runJ f rs rs.length) = C) : ∀ X, Below w.heap.size w X → Calls Try.prog 16 #[.agg #[.slice A rs.length cap], .agg #[.int .i64 (atF f 0), .int .i64 (atF f 1), .int .i64 (atF f 2), .int .i64 (atF f 3), .int .i64 (atF f 4), .int .i64 (atF f 5), .int .i64 (atF f 6), .int .i64 (atF f 7), .int .i64 (atF f 8), .int .i64 (atF f 9)]] X fun e w' => e = .returned (.agg C) ∧ Below X.heap.size X w' := fun X hX => by
  have := decide_any A rs cap rs.length f X w.heap.size (h.keep hX (Nat.le_refl _)) hX.size rfl hl hf
  rwa [hC, fcV_cells hf] at this
theorem rdec_in (h : Elems tRl w w.heap.size A rs) (hl : rs.length ≤ 1000) (hf : f.length = 10) (C : Array Value) (hC : dcs (runJ f rs rs.length) = C) : ∀ X, Below w.heap.size w X → Calls Try.prog 17 #[.agg #[.slice A rs.length cap], .agg #[.int .i64 (atF f 0), .int .i64 (atF f 1), .int .i64 (atF f 2), .int .i64 (atF f 3), .int .i64 (atF f 4), .int .i64 (atF f 5), .int .i64 (atF f 6), .int .i64 (atF f 7), .int .i64 (atF f 8), .int .i64 (atF f 9)]] X fun e w' => e = .returned (.agg C) ∧ Below X.heap.size X w' := fun X hX => by
  have := rdecide_any A rs cap rs.length f X w.heap.size (h.keep hX (Nat.le_refl _)) hX.size rfl hl hf
  rwa [hC, fcV_cells hf] at this
theorem valid_in (h : Elems tRl w w.heap.size A rs) (hl : rs.length ≤ 1000) (r : Bool) (hr : validP rs = r) : ∀ X, Below w.heap.size w X → Calls Try.prog 14 #[.agg #[.slice A rs.length cap]] X fun e w' => e = .returned (.bool r) ∧ Below X.heap.size X w' := fun X hX => by
  have := valid_any A rs cap rs.length X w.heap.size (h.keep hX (Nat.le_refl _)) hX.size rfl (by omega)
  rwa [hr] at this
theorem rvalid_in (h : Elems tRl w w.heap.size A rs) (hl : rs.length ≤ 1000) (r : Bool) (hr : validP rs = r) : ∀ X, Below w.heap.size w X → Calls Try.prog 15 #[.agg #[.slice A rs.length cap]] X fun e w' => e = .returned (.bool r) ∧ Below X.heap.size X w' := fun X hX => by
  have := rvalid_any A rs cap rs.length X w.heap.size (h.keep hX (Nat.le_refl _)) hX.size rfl (by omega)
  rwa [hr] at this
end
section
variable {w : World} {B : Nat} {AZ : Option Addr} {zs : List Zn} {zc : Nat} {f : Fc} {kd : Int} {nm : ByteArray} {num rn rd sn sd : Int}
theorem holds_in (h : Elems tZn w B AZ zs) (hB : B ≤ w.heap.size) (hl : zs.length ≤ 9223372036854775807) (hf : f.length = 10) (r : Bool) (hr : (zs.any fun z => inZ z f) = r) : ∀ X, Below w.heap.size w X → Calls Try.prog 12 #[.agg #[.int .i64 kd, .string nm, .slice AZ zs.length zc, .int .i64 num, .int .i64 rn, .int .i64 rd, .int .i64 sn, .int .i64 sd], .agg #[.int .i64 (atF f 0), .int .i64 (atF f 1), .int .i64 (atF f 2), .int .i64 (atF f 3), .int .i64 (atF f 4), .int .i64 (atF f 5), .int .i64 (atF f 6), .int .i64 (atF f 7), .int .i64 (atF f 8), .int .i64 (atF f 9)]] X fun e w' => e = .returned (.bool r) ∧ Below X.heap.size X w' := fun X hX => by
  have := holds_any kd nm AZ zs zc zs.length num rn rd sn sd f X B (h.keep (hX.mono hB) (Nat.le_refl _)) (by have := hX.size; omega) rfl hl hf
  rwa [hr, fcV_cells hf] at this
theorem rholds_in (h : Elems tZn w B AZ zs) (hB : B ≤ w.heap.size) (hl : zs.length ≤ 9223372036854775807) (hf : f.length = 10) (r : Bool) (hr : (zs.any fun z => inZ z f) = r) : ∀ X, Below w.heap.size w X → Calls Try.prog 13 #[.agg #[.int .i64 kd, .string nm, .slice AZ zs.length zc, .int .i64 num, .int .i64 rn, .int .i64 rd, .int .i64 sn, .int .i64 sd], .agg #[.int .i64 (atF f 0), .int .i64 (atF f 1), .int .i64 (atF f 2), .int .i64 (atF f 3), .int .i64 (atF f 4), .int .i64 (atF f 5), .int .i64 (atF f 6), .int .i64 (atF f 7), .int .i64 (atF f 8), .int .i64 (atF f 9)]] X fun e w' => e = .returned (.bool r) ∧ Below X.heap.size X w' := fun X hX => by
  have := rholds_any kd nm AZ zs zc zs.length num rn rd sn sd f X B (h.keep (hX.mono hB) (Nat.le_refl _)) (by have := hX.size; omega) rfl hl hf
  rwa [hr, fcV_cells hf] at this
end
end Go.Proofs.Ytmklcfmdcfbpeaa
