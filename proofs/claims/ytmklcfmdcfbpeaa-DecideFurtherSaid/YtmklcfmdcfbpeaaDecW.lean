/- Layer 13 (decide): what Decide notes, in plain words; the cells of a decision. -/
import Derived.Test.YtmklcfmdcfbpeaaDecE
namespace Go.Proofs.Ytmklcfmdcfbpeaa
open Go.RowKit
set_option linter.unusedVariables false
set_option linter.unusedSimpArgs false

def noteJ (s : JS) (i : Int) (r : Rl) : JS :=
  if r.1 = 1 then permitJ s i r.2.2.2.1 else if r.1 = 2 then forbidJ s i else if r.1 = 3 then priceJ s r.2.2.2.1 r.2.2.2.2.1.1 r.2.2.2.2.1.2 r.2.2.2.2.2.1 r.2.2.2.2.2.2
  else if r.1 = 4 then resellJ s r.2.2.2.2.1.1 r.2.2.2.2.1.2 r.2.2.2.2.2.1 r.2.2.2.2.2.2 else if r.1 = 5 then refundJ s r.2.2.2.2.1.1 r.2.2.2.2.1.2
  else if r.1 = 6 then { s with tg := true } else if r.1 = 7 then { s with si := true } else s
def stepJ (f : Fc) (s : JS) (i : Int) (r : Rl) : JS := if holdsB r f then noteJ s i r else s
def startJ : JS := ⟨false, false, 0, 0, 0, 1, 0, 1, 0, 1, 0, 1, 0, 1, false, false, false, -1, -1⟩
def runJ (f : Fc) (rs : List Rl) : Nat → JS
  | 0 => startJ
  | k + 1 => match rs[k]? with | some r => stepJ f (runJ f rs k) k r | none => runJ f rs k
theorem runJ_step {f : Fc} {rs : List Rl} {k : Nat} {r : Rl} (h : rs[k]? = some r) : runJ f rs (k + 1) = stepJ f (runJ f rs k) k r := by
  show (match rs[k]? with | some r => stepJ f (runJ f rs k) k r | none => runJ f rs k) = _
  rw [h]
/-- A decision: what a judge has noted, summed up. -/
def decV (al tg si : Bool) (lim price fn fd tn td cn cd sn sd rn rd y : Int) : Array Value := #[.bool al, .bool tg, .bool si, .int .i64 lim, .int .i64 price, .int .i64 fn, .int .i64 fd, .int .i64 tn, .int .i64 td, .int .i64 cn, .int .i64 cd, .int .i64 sn, .int .i64 sd, .int .i64 rn, .int .i64 rd, .int .i64 y]
def okJ (s : JS) : Bool := decide (0 ≤ s.al) && s.pr && decide (s.de < 0)
def byJ (s : JS) : Int := if 0 ≤ s.de then s.de else s.al
def dcs (s : JS) : Array Value := decV (okJ s) s.tg s.si s.lim s.price s.fn s.fd s.tn s.td s.cn s.cd s.sn s.sd s.rn s.rd (byJ s)

def notesL (jb vb : Nat) : List (Int × Value) :=
  [(1, .func (.func 30) #[.pointer (some ⟨jb, 0, none⟩)] #[]), (2, .func (.func 31) #[.pointer (some ⟨jb, 0, none⟩)] #[]), (3, .func (.func 32) #[.pointer (some ⟨jb, 0, none⟩)] #[]),
   (4, .func (.func 33) #[.pointer (some ⟨jb, 0, none⟩)] #[]), (5, .func (.func 34) #[.pointer (some ⟨jb, 0, none⟩)] #[]), (6, .func (.func 35) #[] #[.pointer (some ⟨vb, 0, none⟩)]), (7, .func (.func 36) #[] #[.pointer (some ⟨vb, 0, none⟩)])]

theorem run_cells_at {P : Program} {w : World} {b off n : Nat} {cs : Array Value} (hn : cs.size = n) (hc : ∀ j u, cs[j]? = some u → w.cell? ⟨b, off + j, none⟩ = some u) : (loadCellsFrom ⟨b, off, none⟩ 0 n #[]).run P w = .ok cs w := by
  subst hn
  have := run_loadCells_list (P := P) w ⟨b, off, none⟩ cs.toList (fun j v hv => by
    rw [Addr.add_lit]
    exact hc j v (by simpa using hv))
  simpa [loadCells] using this

theorem zeroF (w : World) : (zeroValue 59).run Try.prog w = .ok .nilFunc w := by kernel_rfl

theorem neq_func (fn : Fn) (a c : Array Value) (w : World) : (binOp .neq 59 (.func fn a c) .nilFunc).run Try.prog w = .ok (.bool true) w := by kernel_rfl
theorem neq_nil (w : World) : (binOp .neq 59 .nilFunc .nilFunc).run Try.prog w = .ok (.bool false) w := by kernel_rfl

theorem fcV_lit {f : Fc} (h : f.length = 10) : fcV f = #[.int .i64 (atF f 0), .int .i64 (atF f 1), .int .i64 (atF f 2), .int .i64 (atF f 3), .int .i64 (atF f 4), .int .i64 (atF f 5), .int .i64 (atF f 6), .int .i64 (atF f 7), .int .i64 (atF f 8), .int .i64 (atF f 9)] := by
  match f, h with
  | [_, _, _, _, _, _, _, _, _, _], _ => rfl

theorem dec_pre {a : Bool} {tg si : Bool} {lim price fn fd tn td cn cd sn sd rn rd y : Int} {p q r : Bool} {al de : Int} {j : Nat} {u : Value} (h : (decV a tg si lim price fn fd tn td cn cd sn sd rn rd y)[j]? = some u) :
    (#[.bool a, .bool tg, .bool si, .int .i64 lim, .int .i64 price, .int .i64 fn, .int .i64 fd, .int .i64 tn, .int .i64 td, .int .i64 cn, .int .i64 cd, .int .i64 sn, .int .i64 sd, .int .i64 rn, .int .i64 rd, .int .i64 y, .bool p, .bool q, .bool r, .int .i64 al, .int .i64 de] : Array Value)[j]? = some u := by
  have e : (#[.bool a, .bool tg, .bool si, .int .i64 lim, .int .i64 price, .int .i64 fn, .int .i64 fd, .int .i64 tn, .int .i64 td, .int .i64 cn, .int .i64 cd, .int .i64 sn, .int .i64 sd, .int .i64 rn, .int .i64 rd, .int .i64 y, .bool p, .bool q, .bool r, .int .i64 al, .int .i64 de] : Array Value) = decV a tg si lim price fn fd tn td cn cd sn sd rn rd y ++ #[.bool p, .bool q, .bool r, .int .i64 al, .int .i64 de] := rfl
  have hj := (Array.getElem?_eq_some_iff.1 h).1
  rw [e, Array.getElem?_append_left hj]
  exact h

theorem info_dec {a : Bool} {tg si : Bool} {lim price fn fd tn td cn cd sn sd rn rd y : Int} : (Try.prog.info? 37).map (·.size) = some (decV a tg si lim price fn fd tn td cn cd sn sd rn rd y).size := by
  show _ = some 16
  kernel_rfl

theorem one_dec {a : Bool} {tg si : Bool} {lim price fn fd tn td cn cd sn sd rn rd y : Int} : (decV a tg si lim price fn fd tn td cn cd sn sd rn rd y).all (·.oneCell') = true := by
  rw [Array.all_eq_true_iff_forall_mem]
  intro v hv
  simp only [decV, List.mem_toArray, List.mem_cons, List.not_mem_nil, or_false] at hv
  rcases hv with rfl | rfl | rfl | rfl | rfl | rfl | rfl | rfl | rfl | rfl | rfl | rfl | rfl | rfl | rfl | rfl <;> rfl

end Go.Proofs.Ytmklcfmdcfbpeaa
