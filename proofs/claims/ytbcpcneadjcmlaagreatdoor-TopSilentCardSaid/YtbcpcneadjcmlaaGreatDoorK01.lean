import Derived.BigQuiet
import Derived.Deep.AppendLies
import Derived.Deep.Draws
import Derived.Deep.QuietTactic
import Derived.Deep.Slices
import Derived.Deep.Upon
import Derived.Deep.WholeRow
import Derived.Great.BuildSlice
import Derived.Ground.Names2Prog
import Derived.Laws.Rows
import Derived.Lib.Hide
import Derived.Lib.OwnBridge
import Derived.MapKept
import Derived.Maps.AppendAt
import Derived.Maps.OwnOps
import Derived.Maps.OwnSet
import Derived.OpenShut
import Derived.OrdersHeld
import Derived.OwnWalk
import Derived.ProofKit
import Derived.RegionTactic
import Derived.Shelf.LaysM
import Derived.Shelf.Slices.Cells
import Derived.Shelf.Slices.CompactI
import Derived.Shelf.Slices.In.SortNone
import Derived.Shelf.Slices.SearchI
import Derived.Shelf.Small.Bits
import Derived.Shelf.Small.Strs
import Derived.Shelf.Sort.Plain
import Derived.Shelf.Strconv.Atoi
import Derived.Shelf.Strconv.Itoa0
import Derived.Shelf.Strconv.Itoa1
import Derived.Shelf.Strconv.Itoa2
import Derived.Shelf.Strconv.Itoa3
import Derived.Shelf.Strings.Builder1
import Derived.Shelf.Strings.BuilderF
import Derived.Shelf.Strings.BuilderK
import Derived.Shelf.Strings.Search1
import Derived.SizedLaws
import Derived.Sort.OwnSortedInts
import Derived.StillTail
import Derived.Test.YtbcpcneadjcmlaaGreatDoorProg
import Derived.WalkKit
namespace Go.RowKit
theorem Hid.o{p:Prop}(h:Hid p):p:=h
theorem Hid.q1{a z:Prop}(hy:Hid (a/\z)):a:=hy.1
theorem Hid.t1{a z:Prop}(h:Hid (a/\z)):z:=h.2
theorem Hid.q2{a b z:Prop}(hy:Hid (a/\(b/\z))):b:=hy.2.1
theorem Hid.t2{a b z:Prop}(h:Hid (a/\(b/\z))):z:=h.2.2
theorem Hid.q3{a b c z:Prop}(hy:Hid (a/\(b/\(c/\z)))):c:=hy.2.2.1
theorem Hid.t3{a b c z:Prop}(h:Hid (a/\(b/\(c/\z)))):z:=h.2.2.2
theorem Hid.q4{a b c d z:Prop}(hy:Hid (a/\(b/\(c/\(d/\z))))):d:=hy.2.2.2.1
theorem Hid.t4{a b c d z:Prop}(h:Hid (a/\(b/\(c/\(d/\z))))):z:=h.2.2.2.2
theorem Hid.q5{a b c d e z:Prop}(hy:Hid (a/\(b/\(c/\(d/\(e/\z)))))):e:=hy.2.2.2.2.1
theorem Hid.t5{a b c d e z:Prop}(h:Hid (a/\(b/\(c/\(d/\(e/\z)))))):z:=h.2.2.2.2.2
theorem Hid.q6{a b c d e f z:Prop}(hy:Hid (a/\(b/\(c/\(d/\(e/\(f/\z))))))):f:=hy.2.2.2.2.2.1
theorem Hid.t6{a b c d e f z:Prop}(h:Hid (a/\(b/\(c/\(d/\(e/\(f/\z))))))):z:=h.2.2.2.2.2.2
theorem Hid.q7{a b c d e f g z:Prop}(hy:Hid (a/\(b/\(c/\(d/\(e/\(f/\(g/\z)))))))):g:=hy.2.2.2.2.2.2.1
theorem Hid.t7{a b c d e f g z:Prop}(h:Hid (a/\(b/\(c/\(d/\(e/\(f/\(g/\z)))))))):z:=h.2.2.2.2.2.2.2
theorem Hid.q8{a b c d e f g h z:Prop}(hy:Hid (a/\(b/\(c/\(d/\(e/\(f/\(g/\(h/\z))))))))):h:=hy.2.2.2.2.2.2.2.1
theorem Hid.t8{a b c d e f g h z:Prop}(h:Hid (a/\(b/\(c/\(d/\(e/\(f/\(g/\(h/\z))))))))):z:=h.2.2.2.2.2.2.2.2
theorem Hid.q9{a b c d e f g h i z:Prop}(hy:Hid (a/\(b/\(c/\(d/\(e/\(f/\(g/\(h/\(i/\z)))))))))):i:=hy.2.2.2.2.2.2.2.2.1
theorem Hid.t9{a b c d e f g h i z:Prop}(h:Hid (a/\(b/\(c/\(d/\(e/\(f/\(g/\(h/\(i/\z)))))))))):z:=h.2.2.2.2.2.2.2.2.2
theorem Hid.Ci{a b c d e f g h i j z:Prop}(hy:Hid (a/\(b/\(c/\(d/\(e/\(f/\(g/\(h/\(i/\(j/\z))))))))))):j:=hy.2.2.2.2.2.2.2.2.2.1
theorem Hid.t10{a b c d e f g h i j z:Prop}(h:Hid (a/\(b/\(c/\(d/\(e/\(f/\(g/\(h/\(i/\(j/\z))))))))))):z:=h.2.2.2.2.2.2.2.2.2.2
theorem Hid.q11{a b c d e f g h i j k z:Prop}(hy:Hid (a/\(b/\(c/\(d/\(e/\(f/\(g/\(h/\(i/\(j/\(k/\z)))))))))))):k:=hy.2.2.2.2.2.2.2.2.2.2.1
theorem Hid.t11{a b c d e f g h i j k z:Prop}(h:Hid (a/\(b/\(c/\(d/\(e/\(f/\(g/\(h/\(i/\(j/\(k/\z)))))))))))):z:=h.2.2.2.2.2.2.2.2.2.2.2
theorem Hid.q12{a b c d e f g h i j k l z:Prop}(hy:Hid (a/\(b/\(c/\(d/\(e/\(f/\(g/\(h/\(i/\(j/\(k/\(l/\z))))))))))))):l:=hy.2.2.2.2.2.2.2.2.2.2.2.1
theorem Hid.t12{a b c d e f g h i j k l z:Prop}(h:Hid (a/\(b/\(c/\(d/\(e/\(f/\(g/\(h/\(i/\(j/\(k/\(l/\z))))))))))))):z:=h.2.2.2.2.2.2.2.2.2.2.2.2
theorem Hid.q13{a b c d e f g h i j k l m z:Prop}(hy:Hid (a/\(b/\(c/\(d/\(e/\(f/\(g/\(h/\(i/\(j/\(k/\(l/\(m/\z)))))))))))))):m:=hy.2.2.2.2.2.2.2.2.2.2.2.2.1
theorem Hid.t13{a b c d e f g h i j k l m z:Prop}(h:Hid (a/\(b/\(c/\(d/\(e/\(f/\(g/\(h/\(i/\(j/\(k/\(l/\(m/\z)))))))))))))):z:=h.2.2.2.2.2.2.2.2.2.2.2.2.2
theorem Hid.q14{a b c d e f g h i j k l m n z:Prop}(hy:Hid (a/\(b/\(c/\(d/\(e/\(f/\(g/\(h/\(i/\(j/\(k/\(l/\(m/\(n/\z))))))))))))))):n:=hy.2.2.2.2.2.2.2.2.2.2.2.2.2.1
theorem Hid.t14{a b c d e f g h i j k l m n z:Prop}(h:Hid (a/\(b/\(c/\(d/\(e/\(f/\(g/\(h/\(i/\(j/\(k/\(l/\(m/\(n/\z))))))))))))))):z:=h.2.2.2.2.2.2.2.2.2.2.2.2.2.2
theorem Hid.q15{a b c d e f g h i j k l m n o z:Prop}(hy:Hid (a/\(b/\(c/\(d/\(e/\(f/\(g/\(h/\(i/\(j/\(k/\(l/\(m/\(n/\(o/\z)))))))))))))))):o:=hy.2.2.2.2.2.2.2.2.2.2.2.2.2.2.1
theorem Hid.t15{a b c d e f g h i j k l m n o z:Prop}(h:Hid (a/\(b/\(c/\(d/\(e/\(f/\(g/\(h/\(i/\(j/\(k/\(l/\(m/\(n/\(o/\z)))))))))))))))):z:=h.2.2.2.2.2.2.2.2.2.2.2.2.2.2.2
end Go.RowKit
namespace Go.Proofs.YtbcpcneadjcmlaaGreatDoor
open Go.Proofs.Tryz
set_option maxRecDepth 100000
set_option maxHeartbeats 16000000
set_option linter.unusedVariables false
set_option linter.unusedSimpArgs false
open Value renaming int→I,slice→G,pointer→M
open IntKind renaming i64→J
open Obj renaming cells→D
open Option renaming some→O,none→U
open Go renaming Value→R,World→agb
section
open Go.RowKit Go.ChangeShapes Go.WideShapes Go.Deep
theorem aG{p:Prop}(h:p):RowKit.Hid p:=h
theorem dt{a b:Prop}(xa:a)(xb:b):RowKit.Hid (a/\b):=And.intro xa xb
theorem fH{a b c:Prop}(xa:a)(xb:b)(xc:c):RowKit.Hid (a/\(b/\c)):=And.intro xa (And.intro xb xc)
theorem iM{a b c d:Prop}(xa:a)(xb:b)(xc:c)(xd:d):RowKit.Hid (a/\(b/\(c/\d))):=And.intro xa (And.intro xb (And.intro xc xd))
theorem lQ{a b c d e:Prop}(xa:a)(xb:b)(xc:c)(xd:d)(xe:e):RowKit.Hid (a/\(b/\(c/\(d/\e)))):=And.intro xa (And.intro xb (And.intro xc (And.intro xd xe)))
theorem uF{a b c d e f:Prop}(xa:a)(xb:b)(xc:c)(xd:d)(xe:e)(xf:f):RowKit.Hid (a/\(b/\(c/\(d/\(e/\f))))):=And.intro xa (And.intro xb (And.intro xc (And.intro xd (And.intro xe xf))))
theorem yJ{a b c d e f g:Prop}(xa:a)(xb:b)(xc:c)(xd:d)(xe:e)(xf:f)(xg:g):RowKit.Hid (a/\(b/\(c/\(d/\(e/\(f/\g)))))):=And.intro xa (And.intro xb (And.intro xc (And.intro xd (And.intro xe (And.intro xf xg)))))
theorem yK{a b c d e f g h:Prop}(xa:a)(xb:b)(xc:c)(xd:d)(xe:e)(xf:f)(xg:g)(xh:h):RowKit.Hid (a/\(b/\(c/\(d/\(e/\(f/\(g/\h))))))):=And.intro xa (And.intro xb (And.intro xc (And.intro xd (And.intro xe (And.intro xf (And.intro xg xh))))))
theorem Ru{a b c d e f g h i:Prop}(xa:a)(xb:b)(xc:c)(xd:d)(xe:e)(xf:f)(xg:g)(xh:h)(xi:i):RowKit.Hid (a/\(b/\(c/\(d/\(e/\(f/\(g/\(h/\i)))))))):=And.intro xa (And.intro xb (And.intro xc (And.intro xd (And.intro xe (And.intro xf (And.intro xg (And.intro xh xi)))))))
theorem Wo{a b c d e f g h i j:Prop}(xa:a)(xb:b)(xc:c)(xd:d)(xe:e)(xf:f)(xg:g)(xh:h)(xi:i)(xj:j):RowKit.Hid (a/\(b/\(c/\(d/\(e/\(f/\(g/\(h/\(i/\j))))))))):=And.intro xa (And.intro xb (And.intro xc (And.intro xd (And.intro xe (And.intro xf (And.intro xg (And.intro xh (And.intro xi xj))))))))
theorem adL{a b c d e f g h i j k:Prop}(xa:a)(xb:b)(xc:c)(xd:d)(xe:e)(xf:f)(xg:g)(xh:h)(xi:i)(xj:j)(xk:k):RowKit.Hid (a/\(b/\(c/\(d/\(e/\(f/\(g/\(h/\(i/\(j/\k)))))))))):=And.intro xa (And.intro xb (And.intro xc (And.intro xd (And.intro xe (And.intro xf (And.intro xg (And.intro xh (And.intro xi (And.intro xj xk)))))))))
theorem aox{a b c d e f g h i j k l:Prop}(xa:a)(xb:b)(xc:c)(xd:d)(xe:e)(xf:f)(xg:g)(xh:h)(xi:i)(xj:j)(xk:k)(xl:l):RowKit.Hid (a/\(b/\(c/\(d/\(e/\(f/\(g/\(h/\(i/\(j/\(k/\l))))))))))):=And.intro xa (And.intro xb (And.intro xc (And.intro xd (And.intro xe (And.intro xf (And.intro xg (And.intro xh (And.intro xi (And.intro xj (And.intro xk xl))))))))))
theorem aoy{a b c d e f g h i j k l m:Prop}(xa:a)(xb:b)(xc:c)(xd:d)(xe:e)(xf:f)(xg:g)(xh:h)(xi:i)(xj:j)(xk:k)(xl:l)(xm:m):RowKit.Hid (a/\(b/\(c/\(d/\(e/\(f/\(g/\(h/\(i/\(j/\(k/\(l/\m)))))))))))):=And.intro xa (And.intro xb (And.intro xc (And.intro xd (And.intro xe (And.intro xf (And.intro xg (And.intro xh (And.intro xi (And.intro xj (And.intro xk (And.intro xl xm)))))))))))
theorem aoz{a b c d e f g h i j k l m n:Prop}(xa:a)(xb:b)(xc:c)(xd:d)(xe:e)(xf:f)(xg:g)(xh:h)(xi:i)(xj:j)(xk:k)(xl:l)(xm:m)(xn:n):RowKit.Hid (a/\(b/\(c/\(d/\(e/\(f/\(g/\(h/\(i/\(j/\(k/\(l/\(m/\n))))))))))))):=And.intro xa (And.intro xb (And.intro xc (And.intro xd (And.intro xe (And.intro xf (And.intro xg (And.intro xh (And.intro xi (And.intro xj (And.intro xk (And.intro xl (And.intro xm xn))))))))))))
theorem ah4{a b c d e f g h i j k l m n o:Prop}(xa:a)(xb:b)(xc:c)(xd:d)(xe:e)(xf:f)(xg:g)(xh:h)(xi:i)(xj:j)(xk:k)(xl:l)(xm:m)(xn:n)(xo:o):RowKit.Hid (a/\(b/\(c/\(d/\(e/\(f/\(g/\(h/\(i/\(j/\(k/\(l/\(m/\(n/\o)))))))))))))):=And.intro xa (And.intro xb (And.intro xc (And.intro xd (And.intro xe (And.intro xf (And.intro xg (And.intro xh (And.intro xi (And.intro xj (And.intro xk (And.intro xl (And.intro xm (And.intro xn xo)))))))))))))
theorem ah5{a b c d e f g h i j k l m n o p:Prop}(xa:a)(xb:b)(xc:c)(xd:d)(xe:e)(xf:f)(xg:g)(xh:h)(xi:i)(xj:j)(xk:k)(xl:l)(xm:m)(xn:n)(xo:o)(xp:p):RowKit.Hid (a/\(b/\(c/\(d/\(e/\(f/\(g/\(h/\(i/\(j/\(k/\(l/\(m/\(n/\(o/\p))))))))))))))):=And.intro xa (And.intro xb (And.intro xc (And.intro xd (And.intro xe (And.intro xf (And.intro xg (And.intro xh (And.intro xi (And.intro xj (And.intro xk (And.intro xl (And.intro xm (And.intro xn (And.intro xo xp))))))))))))))
theorem aV{p:Prop}(h:p:=by kernel_rfl):p:=h
theorem ar{p:Prop}(h:p:=by omega):p:=h
theorem cj{p:Prop}(h:p:=by decide):p:=h
theorem bY{p:Prop}(h:p:=by simp):p:=h
theorem gW{p:Prop}(h:p:=by(simp;omega)):p:=h
theorem gC{p:Prop}(h:p:=by go_num):p:=h
abbrev aa:= @List.getD_cons_zero
abbrev ae:= @List.getD_cons_succ
abbrev af:= @List.getElem?_eq_getElem
abbrev ah:= @Nat.le_refl
abbrev ai:= @List.getElem?_eq_some_iff
abbrev ak:= @Nat.zero_le
abbrev av:= @List.getD_eq_getElem?_getD
abbrev ax:= @List.length_append
abbrev az:= @List.mem_of_getElem?
abbrev aA:= @Below.refl
abbrev aB:= @And.intro
abbrev aD:= @Bool.and_eq_true
abbrev aH:= @List.map_cons
abbrev aJ:= @underlying3
abbrev aN:= @List.mem_singleton
abbrev aO:= @Option.some.inj
abbrev aR:= @List.mem_cons
abbrev aU:= @List.map_nil
abbrev aX:= @List.take_length
abbrev bm:= @Nat.le_trans
abbrev bn:= @underlying9
abbrev bo:= @List.mem_iff_getElem
abbrev bu:= @List.take_add_one
abbrev bB:= @List.length_map
abbrev bC:= @underlying112
abbrev bD:= @List.length_cons
abbrev bG:= @List.mem_range
abbrev bH:= @List.not_mem_nil
abbrev bM:= @List.getElem?_append_left
abbrev bP:= @List.getElem?_append_right
abbrev bQ:= @List.getElem?_map
abbrev bV:= @List.mem_append
abbrev bX:= @Nat.zero_add
abbrev cD:= @List.getElem_mem
abbrev cI:= @Array.getElem?_eq_none
abbrev cP:= @Array.getElem?_eq_getElem
abbrev cQ:= @Option.some.injEq
abbrev cU:= @List.take_of_length_le
abbrev cW:= @List.idxOf_lt_length_of_mem
abbrev cX:= @List.getElem?_eq_none
abbrev cY:= @List.all_eq_true
abbrev dh:= @List.length_take
abbrev di:= @List.mem_cons_of_mem
abbrev dn:= @List.getElem?_toArray
abbrev dA:= @List.mem_cons_self
abbrev dD:= @Option.getD_some
abbrev dG:= @List.length_nil
abbrev dH:= @List.map_append
abbrev dI:= @Nat.lt_of_lt_of_le
abbrev dJ:= @Array.all_eq_true_iff_forall_mem
abbrev dP:= @List.mem_flatMap
abbrev dS:= @List.setIfInBounds_toArray
abbrev dU:= @List.append_nil
abbrev dW:= @underlying4
abbrev dY:= @List.mem_filter
abbrev ei:= @List.length_filter_le
abbrev et:= @Nat.mul_le_mul
abbrev eC:= @Nat.lt_or_ge
abbrev eD:= @List.any_eq_true
abbrev eG:= @List.pairwise_iff_getElem
abbrev eJ:= @List.flatMap_append
abbrev eQ:= @List.mem_map
abbrev eU:= @List.cons_append
abbrev eV:= @List.nil_append
abbrev eW:= @List.length_range
abbrev fp:= @List.eq_nil_of_length_eq_zero
abbrev fu:= @Nat.add_assoc
abbrev fG:= @List.getElem_append_right
abbrev fO:= @List.getElem_append_left
abbrev fP:= @List.getElem_idxOf
abbrev fQ:= @Nat.mul_assoc
abbrev fU:= @List.take_succ_cons
abbrev fX:= @List.range_succ
abbrev fZ:= @List.flatten_cons
abbrev gb:= @underlying141
abbrev gh:= @Nat.mul_le_mul_right
abbrev gG:= @Array.getD_eq_getD_getElem?
abbrev gH:= @underlying63
abbrev gO:= @Nat.eq_zero_or_pos
abbrev gP:= @List.getElem?_take
abbrev gQ:= @List.filter_append
abbrev gR:= @Option.isSome_some
abbrev gS:= @Nat.le_of_lt
abbrev gZ:= @List.flatMap_cons
abbrev ia:= @List.take_append_drop
abbrev ij:= @underlying187
abbrev iq:= @List.cons.injEq
abbrev iu:= @underlying31
abbrev iv:= @Array.getElem?_setIfInBounds
abbrev iD:= @List.set_cons_zero
abbrev iE:= @List.set_cons_succ
abbrev iU:= @Array.getElem?_append_left
abbrev iV:= @List.getElem?_set
abbrev iW:= @underlying90
abbrev iX:= @Array.getElem?_eq_some_iff
abbrev iY:= @List.length_pos_iff
abbrev ja:= @Option.map_some
abbrev jc:= @Bool.eq_iff_iff
abbrev jk:= @List.length_singleton
abbrev jt:= @Array.ext_getElem?
abbrev ju:= @List.getElem?_drop
abbrev jv:= @Nat.mul_comm
abbrev jB:= @List.mem_of_mem_take
abbrev jH:= @List.getElem?_cons_zero
abbrev jS:= @underlying274
abbrev jT:= @List.getElem_map
abbrev jU:= @List.filter_cons
abbrev j8:= @List.pairwise_cons
abbrev kJ:= @List.any_append
abbrev kL:= @List.nodup_append
abbrev kR:= @underlying300
abbrev lu:= @List.append_toArray
abbrev lH:= @Option.bind_some
abbrev lI:= @List.length_eq_zero_iff
abbrev mD:= @List.length_set
abbrev mE:= @underlying102
abbrev nH:= @underlying0
abbrev nI:= @underlying5
abbrev oa:= @underlying69
abbrev o7:= @underlying198
abbrev o8:= @underlying284
abbrev rq:= @underlying36
abbrev tF:= @underlying211
abbrev tG:= @underlying251
abbrev vo:= @underlying20
abbrev vp:= @underlying82
abbrev vq:= @underlying44
abbrev vt:= @underlying75
abbrev zS:= @underlying117
abbrev zT:= @underlying161
abbrev ED:= @underlying86
abbrev EE:= @underlying50
theorem aoB(fn:Fn)(first cap:Array Value)(w:World):(Instr.makeFunc fn first cap).run prog w=.ok (.func fn first cap) w:=rfl
abbrev lC:=Exit->Act->World->Prop
abbrev xD:=Act->World->Prop
abbrev jL(v:Value)(w:World):Ending->World->Prop:=λ e w'=>e=.returned v/\Below w.heap.size w w'
abbrev aZ(w w':World):Prop:=Below w.heap.size w w'
abbrev dB:=Option Addr
abbrev BA0:=ByteArray
theorem below_drewN{B:Nat}{a w:agb}(h:Below B a w)(n:Nat):Below B a (w.drewN n):=⟨h.os,h.tape,h.output,h.size,h.block⟩
structure Ty(α:Type) where
 n:Nat
 rd:agb->Nat->List R->α->Prop
 len:∀{w B cs x},rd w B cs x->cs.length=n
 keep:∀{w w' B B' cs x},Below B w w'->B<=B'->rd w B cs x->rd w' B' cs x
def dr:Ty Int where
 n:=1
 rd:=λ _ _ cs x=>cs=[I J x]/\ -9223372036854775808<=x/\x<=9223372036854775807
 len:=by rintro _ _ _ _ ⟨rfl,_⟩;rfl
 keep:=λ _ _ h=>h
def Q5:Ty Int where
 n:=1
 rd:=λ _ _ cs x=>cs=[.int .u8 x]/\0<=x/\x<=255
 len:=by rintro _ _ _ _ ⟨rfl,_⟩;rfl
 keep:=λ _ _ h=>h
def OX:Ty BA0 where
 n:=1
 rd:=λ _ _ cs x=>cs=[.string x]/\x.size<=maxLen
 len:=by rintro _ _ _ _ ⟨rfl,_⟩;rfl
 keep:=λ _ _ h=>h
def fy{α β:Type}(S:Ty α)(T:Ty β):Ty (α×β) where
 n:=S.n+T.n
 rd:=λ w B cs x=>∃c1 c2,cs=c1++c2/\S.rd w B c1 x.1/\T.rd w B c2 x.2
 len:=by rintro _ _ _ _ ⟨c1,c2,rfl,h1,h2⟩;rw[ax,S.len h1,T.len h2]
 keep:=λ hb hB ⟨c1,c2,e,h1,h2⟩=>⟨c1,c2,e,S.keep hb hB h1,T.keep hb hB h2⟩
def cG{α:Type}(T:Ty α)(w:agb)(B:Nat)(A:dB)(xs:List α):Prop:=
 ∀i(h:i<xs.length),∃b off cs,A=O ⟨b,off,U⟩/\b<B/\T.rd w B cs xs[i]/\∀j u,cs[j]?=O u->w.cell? ⟨b,off+i*T.n+j,U⟩=O u
def eF{α:Type}(T:Ty α):Ty (List α) where
 n:=1
 rd:=λ w B cs xs=>∃A cap,cs=[G A xs.length cap]/\xs.length<=cap/\cap<=maxLen/\cG T w B A xs
 len:=by rintro _ _ _ _ ⟨A,cap,rfl,_⟩;rfl
 keep:=λ{w w' B B' cs xs} hb hB ⟨A,cap,e,h1,h2,h3⟩=>⟨A,cap,e,h1,h2,λ i hi=>by obtain⟨b,off,ds,hA,hlt,hr,hc⟩:=h3 i hi;exact⟨b,off,ds,hA,ar,T.keep hb hB hr,λ j u hu=>(hb.cell (p:=⟨b,off+i*T.n+j,U⟩) hlt).trans (hc j u hu)⟩⟩
def Ww{α:Type}(m:Nat)(T:Ty α):Ty (List α) where
 n:=m*T.n
 rd:=λ w B cs xs=>cs.length=m*T.n/\xs.length=m/\∀i(h:i<xs.length),T.rd w B ((cs.drop (i*T.n)).take T.n) xs[i]
 len:=λ h=>h.1
 keep:=λ hb hB ⟨h1,h2,h3⟩=>⟨h1,h2,λ i hi=>T.keep hb hB (h3 i hi)⟩
section
variable{α:Type}{T:Ty α}{w w':agb}{B B':Nat}{A:dB}{xs:List α}
theorem cG.nil:cG T w B A ([]:List α):=λ i hi=>absurd hi bY
theorem cG.keep(h:cG T w B A xs)(hb:Below B w w')(hB:B<=B'):cG T w' B' A xs:=λ i hi=>by obtain⟨b,off,ds,hA,hlt,hr,hc⟩:=h i hi;exact⟨b,off,ds,hA,ar,T.keep hb hB hr,λ j u hu=>(hb.cell (p:=⟨b,off+i*T.n+j,U⟩) hlt).trans (hc j u hu)⟩
theorem OY{cap:Nat}(h1:xs.length<=cap)(h2:cap<=maxLen)(h:cG T w B A xs):(eF T).rd w B [G A xs.length cap] xs:=⟨A,cap,rfl,h1,h2,h⟩
theorem EF{b off:Nat}(hb:b<B)(css:List (List R))
 (hr:∀i(h:i<xs.length),T.rd w B (css.getD i []) xs[i])
 (hc:∀i j u,i<xs.length->(css.getD i [])[j]?=O u->w.cell? ⟨b,off+i*T.n+j,U⟩=O u):cG T w B (O ⟨b,off,U⟩) xs:=
 λ i hi=>⟨b,off,css.getD i [],rfl,hb,hr i hi,λ j u hu=>hc i j u hi hu⟩
end
theorem cG.pick{α:Type}{T:Ty α}{w:agb}{B:Nat}{A:dB}{xs:List α}(h:cG T w B A xs){k:Nat}(hk:k<xs.length):
 ∃b off x cs,A=O ⟨b,off,U⟩/\b<B/\xs.drop k=x::xs.drop (k+1)/\xs[k]?=O x/\x∈xs/\T.rd w B cs x/\∀j u,cs[j]?=O u->w.cell? ⟨b,off+k*T.n+j,U⟩=O u:=by
 obtain⟨b,off,cs,hA,hb,hr,hc⟩:=h k hk;exact⟨b,off,xs[k],cs,hA,hb,List.drop_eq_getElem_cons hk,af hk,cD hk,hr,hc⟩
theorem cG.fC{w:agb}{B:Nat}{A:dB}{xs:List Int}(h:cG dr w B A xs){k:Nat}(hk:k<xs.length):
 ∃b off x,A=O ⟨b,off,U⟩/\b<B/\Hid (xs.drop k=x::xs.drop (k+1))/\Hid (xs[k]?=O x)/\w.cell? ⟨b,off+k,U⟩=O (I J x)/\ -9223372036854775808<=x/\x<=9223372036854775807:=by
 obtain⟨b,off,x,cs,hA,hb,hd,hx,_,⟨rfl,h1,h2⟩,hc⟩:=h.pick hk;exact⟨b,off,x,hA,hb,hd,hx,by simpa [dr] using hc 0 _ rfl,h1,h2⟩
theorem eu{a b:Bool}(h:a=b):Ending.returned (.bool a)=.returned (.bool b):=by rw[h]
theorem Ns(x y:Int):(if x<y then y else x)=max x y:=ar
theorem Nt(x y:Int):(if y<x then y else x)=min x y:=ar
def rv{α:Type}(P:Program)(t:TypeId)(T:Ty α):Prop:=
 P.cellsOf t=T.n/\∀(H:Type)(enc:TypeId×R->H)(w:agb)(spare:Nat->Bool)(held:Bool)(base fuel:Nat)(cs:List R)(x:DataW H×List MemPlace),
  DataW.trod enc P w base spare held fuel t cs=O x->∃y,T.rd w w.heap.size cs y
theorem Fg{P:Program}{t:TypeId}(ht:P.underlying t=O (.int .i64))(hc:P.cellsOf t=1):rv P t dr:=
 ⟨hc,λ _ _ _ _ _ _ _ _ _ h=>by obtain⟨n,rfl,_,hw⟩:=DataW.trod_int ht h;refine⟨n,rfl,?_⟩;simpa [Lit.wf,IntKind.min,IntKind.max,IntKind.signed,IntKind.bits] using hw⟩
theorem agw{P:Program}{t:TypeId}(ht:P.underlying t=O (.int .u8))(hc:P.cellsOf t=1):rv P t Q5:=
 ⟨hc,λ _ _ _ _ _ _ _ _ _ h=>by obtain⟨n,rfl,_,hw⟩:=DataW.trod_int ht h;refine⟨n,rfl,?_⟩;simpa [Lit.wf,IntKind.min,IntKind.max,IntKind.signed,IntKind.bits] using hw⟩
theorem aeo{P:Program}{t:TypeId}(ht:P.underlying t=O .string)(hc:P.cellsOf t=1):rv P t OX:=
 ⟨hc,λ _ _ _ _ _ _ _ _ _ h=>by obtain⟨s,rfl,_,hs⟩:=DataW.trod_string ht h;exact⟨s,rfl,hs⟩⟩
theorem tN{α:Type}{p:Nat->α->Prop}:∀(n:Nat),(∀i,i<n->∃x,p i x)->∃xs:List α,xs.length=n/\∀i(h:i<xs.length),p i xs[i]
 |0,_=>⟨[],rfl,λ i h=>absurd h bY⟩
 |n+1,h=>by
  obtain⟨xs,hl,hp⟩:=tN n λ i hi=>h i ar;obtain⟨x,hx⟩:=h n ar;refine⟨xs++[x],by simp[hl],λ i hi=>?_⟩;by_cases lY:i<xs.length
  · rw[fO lY]
    exact hp i lY
  · have :i=n:=by simp at hi;omega
    subst this;rw[fG ar];simpa using hx
theorem aco{α:Type}{P:Program}{t e:TypeId}{T:Ty α}(ht:P.underlying t=O (.slice e))(hc:P.cellsOf t=1)(sy:0<T.n)(hT:rv P e T):rv P t (eF T):=
 ⟨hc,λ H enc w spare held base fuel cs x h=>by
  rcases open_slice ht h with⟨rfl,_⟩|⟨a,len,cap,m,n,aak,Pl,rfl,_,hl,hm,qf,_,hx⟩
  · exact⟨[],U,0,rfl,bY,by simp[maxLen],cG.nil⟩
  · have VZ:len<=m:=by rw[qf];split<;>omega
    obtain⟨b,off,spot⟩:=a
    have hall:∀i,i<len->∃y,∃b' off' cs',O (⟨b,off,spot⟩:Addr)=O ⟨b',off',U⟩/\b'<w.heap.size/\T.rd w w.heap.size cs' y/\
     ∀j u,cs'[j]?=O u->w.cell? ⟨b',off'+i*T.n+j,U⟩=O u:=λ i hi=>by
     obtain⟨cs',hcs,GD⟩:=hx i ar;obtain⟨y,hy⟩:=hT.2 H enc w spare held base n cs' _ GD;obtain⟨_,hlen,hcell⟩:=World.cells?_some hcs;rw[hT.1] at hcs hlen hcell;have hl0:=T.len hy;have c0:=hcell 0 sy;rw[af ar] at c0;obtain⟨a0,ha0⟩:∃a0:Addr,a0=((⟨b,off,spot⟩:Addr).add (i*T.n)):=⟨_,rfl⟩;have hb0:a0.block=b:=by rw[ha0];unfold Addr.add;split<;>rfl
     have ho0:a0.off=off+i*T.n:=by rw[ha0];unfold Addr.add;split<;>simp_all
     rw[<-ha0] at c0 hcell;have hsp:a0.spot=U:=by simpa [Addr.add] using World.cell?_spot c0
     have hlt:=World.block_lt_of_cell? w _ c0
     have ea:∀j,a0.add j=⟨b,off+i*T.n+j,U⟩:=λ j=>by
      obtain⟨b1,o1,s1⟩:=a0;simp only at hb0 ho0 hsp;subst hb0 ho0 hsp;unfold Addr.add;split
      · rename_i hj;subst hj;rfl
      · rfl
     have hb1:b<w.heap.size:=by
      have e0:(a0.add 0).block=b:=by rw[ea]
      rw[<-e0];exact hlt
     have sA:∀j u,cs'[j]?=O u->w.cell? ⟨b,off+i*T.n+j,U⟩=O u:=λ j u hu=>by
      have hj:j<T.n:=by have :=(ai.1 hu).1;omega
      rw[<-ea,hcell j hj,hu]
     by_cases hs:spot=U
     · subst hs
       exact⟨y,b,off,cs',rfl,hb1,hy,sA⟩
     · exfalso
       by_cases Q6:i*T.n=0
       · apply hs
         rw[ha0] at hsp;simpa [Addr.add,Q6] using hsp
       · obtain⟨cs0,aii,ht0⟩:=hx 0 ar
         obtain⟨_,adV,RQ⟩:=World.cells?_some aii;rw[hT.1] at adV RQ;have c00:=RQ 0 sy;rw[af ar] at c00;apply hs
         simpa [Addr.add] using World.cell?_spot c00
    obtain⟨xs,Fh,hxs⟩:=tN len hall;refine⟨xs,O ⟨b,off,spot⟩,cap,by rw[Fh],ar,hm,λ i hi=>?_⟩;obtain⟨b',off',cs',e1,e2,e3,e4⟩:=hxs i hi;exact⟨b',off',cs',e1,e2,e3,e4⟩⟩
inductive Fields(P:Program):List Field->Nat->{α:Type}->Ty α->Prop
 |one {f:Field} {o:Nat} {α:Type} {T:Ty α} (ho:f.offset=o) (h:rv P f.type T):Fields P [f] o T
 |cons {f:Field} {fs:List Field} {o:Nat} {α β:Type} {S:Ty α} {T:Ty β} (ho:f.offset=o) (h:rv P f.type S) (r:Fields P fs (o+S.n) T):Fields P (f::fs) o (fy S T)
theorem Fields.reads{P:Program}{H:Type}{enc:TypeId×R->H}{w:agb}{spare:Nat->Bool}{held:Bool}{base m:Nat}:
 ∀{fs:List Field}{o:Nat}{α:Type}{T:Ty α},Fields P fs o T->∀(cs:List R),cs.length=o+T.n->
  (∀f∈fs,∃x,DataW.trod enc P w base spare held m f.type ((cs.drop f.offset).take (P.cellsOf f.type))=O x)->∃y,T.rd w w.heap.size (cs.drop o) y:=by
 intro fs o α T h;induction h with
 |one ho h=>
  intro cs hl hx;obtain⟨x,hx⟩:=hx _ (aN.2 rfl);obtain⟨y,hy⟩:=h.2 _ _ _ _ _ _ _ _ _ hx;rw[ho,h.1,cU gW] at hy;exact⟨y,hy⟩
 |cons ho h r ih=>
  rename_i f fs o α β S T;intro cs hl hx;obtain⟨x,hx1⟩:=hx _ (dA ..);obtain⟨y1,WC⟩:=h.2 _ _ _ _ _ _ _ _ _ hx1;rw[ho,h.1] at WC;have hl':cs.length=(o+S.n)+T.n:=by rw[hl];show o+(S.n+T.n)=_;omega
  obtain⟨y2,WD⟩:=ih cs hl' λ g hg=>hx g (di _ hg);refine⟨(y1,y2),(cs.drop o).take S.n,(cs.drop (o+S.n)),?_,WC,WD⟩;rw[<-List.drop_drop,ia]
theorem abu{P:Program}{t:TypeId}{fs:Array Field}{α:Type}{T:Ty α}(ht:P.underlying t=O (.struct fs))(hc:P.cellsOf t=T.n)(hf:Fields P fs.toList 0 T):rv P t T:=
 ⟨hc,λ H enc w spare held base fuel cs x h=>by
  obtain⟨xs,n,_,_,hl,Fh,hx⟩:=DataW.trod_struct ht h
  obtain⟨y,hy⟩:=hf.reads (enc:=enc) (w:=w) (spare:=spare) (held:=held) (base:=base) (m:=n) cs (by rw[hl,hc];omega) λ f hf'=>by obtain⟨i,hi,rfl⟩:=bo.1 hf';refine⟨xs[i]'(by rw[Fh];simpa using hi),?_⟩;rw[hx i _ bY];exact af _
  exact⟨y,hy⟩⟩
theorem OZ{α:Type}{P:Program}{t e:TypeId}{m:Nat}{T:Ty α}(ht:P.underlying t=O (.array m e))(hc:P.cellsOf t=m*T.n)(hT:rv P e T):rv P t (Ww m T):=
 ⟨hc,λ H enc w spare held base fuel cs x h=>by
  obtain⟨xs,n,_,_,hl,Fh,hx⟩:=DataW.trod_array ht h
  obtain⟨ys,hyl,hys⟩:=tN (p:=λ i y=>T.rd w w.heap.size ((cs.drop (i*T.n)).take T.n) y) m λ i hi=>by have h1:=hx i hi;rw[af ar,hT.1] at h1;exact hT.2 _ _ _ _ _ _ _ _ _ h1
  exact⟨ys,by rw[hl,hc],hyl,hys⟩⟩
theorem vu{P:Program}{H:Type}{enc:TypeId×R->H}{W W':agb}(hl:laidOutB P=true)(hb:Below W.heap.size W W'):
 ∀{ts:List TypeId}{vs:List R}{ds:List (DataW H)}{ps:List MemPlace},(∀t∈ts,P.readableRec t=true/\t<P.types.size)->
  DataW.TrodAll enc P W 0 (λ _=>true) true ts vs ds ps->(∀x∈ps,x.block<W.heap.size)->DataW.TrodAll enc P W' 0 (λ b=>decide (b<W.heap.size)) true ts vs ds ps
 |[],_,_,_,_,h,_=>by
  obtain⟨rfl,rfl,rfl⟩:=trodAll_nil h;exact trodAll_mk0
 |t::ts,_,_,_,hr,h,hlt=>by
  obtain⟨v,vs,d,ds,p,q,rfl,rfl,rfl,h1,h2⟩:=trodAll_cons h
  exact trodAll_cons_mk (Below.trod hl (hr t (dA ..)).1 (hr t (dA ..)).2 h1 hb (λ x hx=>hlt x (bV.2 (.inl hx))))
   (vu hl hb (λ u hu=>hr u (di _ hu)) h2 (λ x hx=>hlt x (bV.2 (.inr hx))))
theorem RB{P:Program}{H:Type}{enc:TypeId×R->H}{f:Func}{s:ChangeSpec}{W W':agb}{args:Array R}{ds gs:List (DataW H)}{before:List MemPlace}{tb:TypeId}
 (hW:DataW.Whole enc P f.params.toList s.vars false W args.toList ds gs before)(hv:s.vars=[])(hs:s.fn H ds= {results:=[.lit (.bool true)],args:=ds})
 (hres:f.resultTypes=#[tb])(uG:P.underlying tb=O .bool)(hl:laidOutB P=true)(hr:∀t∈f.params.toList,P.readableRec t=true/\t<P.types.size)
 (hb:Below W.heap.size W W'):s.post enc P f false true false false W args (.bool true) W':=by
 have hW':=hW;obtain⟨p,q,hA,hV,rfl,hfz,nJ⟩:=hW;rw[hv] at hV;obtain⟨rfl,rfl⟩:=trodVars_none hV;simp only[dU] at hW';have hlt:∀x∈p,x.block<W.heap.size:=λ x hx=>hW'.lt x hx;refine⟨ds,[],p,[],p,[],hW',?_,?_,?_,hb.frame _,λ h=>by cases h⟩
 · rw[dU,hs,hres]
   exact trodAll_mk1 (shut_bool uG true)
 · rw[dU,hs]
   exact vu hl hb hr hA hlt
 · rw[dU,hs,hv]
   rfl
structure Got(P:Program)(H:Type)(enc:TypeId×R->H)(W:agb)(t:TypeId)(v:R):Prop where
 ok:∃base,Value.okWide P W .any base t v
 reads:∃d ps,DataW.Trod enc P W 0 (λ _=>true) true t v d ps
inductive agv(P:Program)(H:Type)(enc:TypeId×R->H)(W:agb):List TypeId->List R->Prop
 |nil:agv P H enc W [] []
 |cons {t:TypeId} {ts:List TypeId} {v:R} {vs:List R}:Got P H enc W t v->agv P H enc W ts vs->agv P H enc W (t::ts) (v::vs)
theorem agv.cons_inv{P:Program}{H:Type}{enc:TypeId×R->H}{W:agb}{t:TypeId}{ts:List TypeId}{vs:List R}(h:agv P H enc W (t::ts) vs):
 ∃v us,vs=v::us/\Got P H enc W t v/\agv P H enc W ts us:=by
 cases h with
 |cons h1 h2=>exact⟨_,_,rfl,h1,h2⟩
theorem agv.WE{P:Program}{H:Type}{enc:TypeId×R->H}{W:agb}{vs:List R}(h:agv P H enc W [] vs):vs=[]:=by cases h;rfl
theorem Got.agg{α:Type}{P:Program}{H:Type}{enc:TypeId×R->H}{w:agb}{t:TypeId}{fs:Array Field}{T:Ty α}{v:R}
 (g:Got P H enc w t v)(ht:P.underlying t=O (.struct fs))(hT:rv P t T):∃cs y,v=.agg cs/\T.rd w w.heap.size cs.toList y:=by
 obtain⟨⟨base,hv⟩,d,ps,h⟩:=g;obtain⟨cs,rfl,_⟩:=okWide_struct ht hv;obtain⟨n,hn⟩:=h;obtain⟨y,hy⟩:=hT.2 _ _ _ _ _ _ _ _ _ hn;exact⟨cs,y,rfl,hy⟩
theorem Got.arr{α:Type}{P:Program}{H:Type}{enc:TypeId×R->H}{w:agb}{t e:TypeId}{m:Nat}{T:Ty α}{v:R}
 (g:Got P H enc w t v)(ht:P.underlying t=O (.array m e))(hT:rv P t T):∃cs y,v=.agg cs/\T.rd w w.heap.size cs.toList y:=by
 obtain⟨⟨base,hv⟩,d,ps,h⟩:=g
 have hv':∃cs,v=.agg cs:=by simp only[Value.okWide,ht] at hv;obtain⟨cs,h1,_⟩:=hv;exact⟨cs,h1⟩
 obtain⟨cs,rfl⟩:=hv';obtain⟨n,hn⟩:=h;obtain⟨y,hy⟩:=hT.2 _ _ _ _ _ _ _ _ _ hn;exact⟨cs,y,rfl,hy⟩
theorem Got.one{α:Type}{P:Program}{H:Type}{enc:TypeId×R->H}{w:agb}{t:TypeId}{T:Ty α}{v:R}(g:Got P H enc w t v)(hv:∀cs,v≠ .agg cs)(hT:rv P t T):
 ∃y,T.rd w w.heap.size [v] y:=by
 obtain⟨_,d,ps,n,hn⟩:=g;obtain⟨y,hy⟩:=hT.2 _ _ _ _ _ _ _ _ _ hn;cases v with
 |agg cs=>exact absurd rfl (hv cs)
 |_=>exact⟨y,hy⟩
theorem Got.u8{P:Program}{H:Type}{enc:TypeId×R->H}{w:agb}{t:TypeId}{v:R}(g:Got P H enc w t v)(ht:P.underlying t=O (.int .u8))(hc:P.cellsOf t=1):
 ∃x,v=.int .u8 x/\0<=x/\x<=255:=by
 obtain⟨x,h,hb⟩:=g.one (λ cs e=>by subst e;obtain⟨⟨_,hv⟩,_⟩:=g;simp[Value.okWide,ht,Cell.okWide,Cell.ok] at hv) (agw ht hc);exact⟨x,by simpa using h,hb⟩
theorem Got.slice{α:Type}{P:Program}{H:Type}{enc:TypeId×R->H}{w:agb}{t e:TypeId}{v:R}{T:Ty α}(g:Got P H enc w t v)(ht:P.underlying t=O (.slice e))(hT:rv P t (eF T)):
 ∃A cap xs,v=G A xs.length cap/\xs.length<=cap/\cap<=maxLen/\cG T w w.heap.size A xs:=by
 obtain⟨xs,A,cap,h,hb⟩:=g.one (λ cs e=>by subst e;obtain⟨⟨_,hv⟩,_⟩:=g;simp[Value.okWide,ht,Cell.okWide,Cell.ok] at hv) hT;exact⟨A,cap,xs,by simpa using h,hb⟩
abbrev ic{α:Type}(T:Ty α)(w:agb)(A:dB)(xs:List α):Prop:=cG T w w.heap.size A xs
end
section
theorem nj{P:Program}{ops:Array Oper}{W:agb}{Q:Act->Prop}:∀(l:List Oper)(a:Act),wpQuiet P ops (λ w'=>w'=W) Q l a->wpStill P ops W Q l a
 |[],_,h=>h
 |o::rest,a,h=>by
  unfold wpQuiet at h;unfold wpStill;split
  · rename_i hw
    rw[if_pos hw] at h;obtain⟨v,h1,h2⟩:=h;have h3:=h1 W rfl;have h4:=nj rest _ h2;unfold Oper.quietAt at h3;unfold Oper.still;generalize(execOp a.eval o).run P W=r at *;cases r with
    |ok n w'=>
     cases n<;>simp only[Oper.quietUpon] at h3<;>simp only[Oper.stillUpon]
     case value u=>obtain⟨e1,e2⟩:=h3;exact⟨e1,by rw[e2];exact h4⟩
     case skip=>obtain⟨e1,e2⟩:=h3;exact⟨e1,by rw[<-e2];exact h4⟩
     case enter f args=>obtain⟨e1,e2⟩:=h3;exact⟨e1,v,e2,h4⟩
    |halt x w'=>simp only[Oper.quietUpon] at h3
  · rename_i hw
    rw[if_neg hw] at h;exact nj rest _ h
theorem mF{P:Program}{id:Nat}{Q:lC}{a:Act}{w:agb}{l:List Oper}(n:Nat)(hm:P.follows .mixedOrders=true)(hB:Region.lexTailB .any l.toArray n=true)
 (h:wpQuiet P l.toArray (λ w'=>w'=w.drew) (λ a'=>wpList P l.toArray Q (l.drop n) a' w.drew) (l.take n) a):(Code.region id l.toArray true).wp P Q a w:=
 wp_region_still_tail n hm hB (nj _ _ h)
end
section
open Go.RowKit
def ext(W u:agb):agb:={heap:=W.heap++u.heap.extract W.heap.size u.heap.size,tape:=W.tape,drawn:=u.drawn,os:=W.os,output:=W.output}
section
variable{W u w':agb}
theorem RD{k:Nat}(h:k<W.heap.size):(ext W u).heap[k]?=W.heap[k]?:=by show(W.heap++_)[k]?=_;rw[iU h]
theorem ke(W u:agb):W.heap.size<=(ext W u).heap.size:=by show _<=(W.heap++_).size;rw[Array.size_append];omega
theorem aT(W u:agb):aZ W (ext W u):=⟨rfl,rfl,rfl,ke W u,λ k hk=>RD hk⟩
theorem aQ(b o:Nat)(h:b<W.heap.size):(ext W u).cell? ⟨b,o,U⟩=W.cell? ⟨b,o,U⟩:=(aT W u).cell (p:=⟨b,o,U⟩) h
theorem aC(b o:Nat)(h:b<W.heap.size):(ext W u).frozen? ⟨b,o,U⟩=W.frozen? ⟨b,o,U⟩:=(aT W u).frozen (p:=⟨b,o,U⟩) h
theorem bW{b:Nat}(h:b<W.heap.size):b<(ext W u).heap.size:=dI h (ke W u)
theorem dV(h:aZ W w'):∃u,ext W u=w':=by
 refine⟨w',?_⟩;obtain⟨h1,h2,h3,h4,h5⟩:=h;obtain⟨heap,tape,drawn,os,output⟩:=w';simp only at h1 h2 h3 h4 h5;unfold ext;simp only[World.mk.injEq];refine⟨?_,h2.symm,trivial,h1.symm,h3.symm⟩;apply jt
 intro i;by_cases hi:i<W.heap.size
 · rw[iU hi,h5 i hi]
 · rw[Array.getElem?_append_right ar,Array.getElem?_extract]
   split
   · congr 1;omega
   · rw[cI ar]
theorem gI(h:Below (ext W u).heap.size (ext W u) w'):∃v,ext W v=w':=dV ((aT W u).trans (h.mono (ke W u)))
theorem ep{o:Obj}(h:Below ((ext W u).alloc o).heap.size ((ext W u).alloc o) w'):∃v,ext W v=w':=
 dV (((aT W u).alloc (ke W u) o).trans (h.mono (by simp;have :=ke W u;omega)))
theorem O0{B:Nat}{w:agb}(h:Below B w W)(hB:B<=W.heap.size)(u:agb):Below B w (ext W u):=h.trans ((aT W u).mono hB)
end
theorem cG.ext{α:Type}{T:Ty α}{W:agb}{B:Nat}{A:dB}{xs:List α}(h:cG T W B A xs)(hB:B<=W.heap.size)(u:agb):cG T (ext W u) B A xs:=
 h.keep ((aT W u).mono hB) (ah _)
theorem iL{P:Program}{f:FuncId}{args:Array R}{W u:agb}{v:R}
 (h:Calls P f args (ext W u) λ e w'=>e=.returned v/\Below (ext W u).heap.size (ext W u) w'):Calls P f args (ext W u) λ e w''=>e=.returned v/\∃u',w''=ext W u':=
 h.mono λ _ _ ⟨he,hb⟩=>by obtain⟨u',hu⟩:=gI hb;exact⟨he,u',hu.symm⟩
theorem bJ{P:Program}{id:Nat}{Q:lC}{a:Act}{l:List Oper}(W:agb)(hm:P.follows .mixedOrders=true)(hB:Region.lexB .any l.toArray=true)
 (h:wpQuiet P l.toArray (λ w'=>∃u,w'=ext W u) (λ a'=>∀u,Q .normal a' (ext W u)) l a):(Code.region id l.toArray true).wp P Q a W:=by
 have hC:∃u,W.drew=ext W u:=by obtain⟨u,hu⟩:=dV (W:=W) (w':=W.drew) ((aA _ _).drew);exact⟨u,hu.symm⟩
 refine wp_region_quiet (C:=λ w'=>∃u,w'=ext W u) hm hB hC ?_
 have e:(λ a'=>∀u,Q .normal a' (ext W u))=(λ a'=>∀w',(∃u,w'=ext W u)->Q .normal a' w'):=by
  funext a'
  apply propext
  exact⟨λ h w' ⟨u,hu⟩=>hu▸h u,λ h u=>h _ ⟨u,rfl⟩⟩
 rw[<-e];simpa using h
theorem kO{α:Type}{n:Nat}:∀(css:List (List α))(i j:Nat)(c:List α),(∀c∈css,c.length=n)->css[i]?=O c->j<n->css.flatten[i*n+j]?=c[j]?
 |[],i,j,c,_,h,_=>by simp at h
 |d::css,0,j,c,hn,h,hj=>by
  have e:d=c:=by simpa using h
  subst e;have hd:d.length=n:=hn d (dA ..);rw[fZ,bM ar];congr 1;omega
 |d::css,i+1,j,c,hn,h,hj=>by
  have hd:d.length=n:=hn d (dA ..);have e:(i+1)*n=i*n+n:=Nat.succ_mul i n;rw[fZ,bP ar,hd];have :=kO css i j c (λ c hc=>hn c (di _ hc)) (by simpa using h) hj;rw[<-this];congr 1;omega
theorem cG.of_flat{α:Type}{T:Ty α}{w:agb}{B b off:Nat}{xs:List α}(css:List (List R))(hb:b<B)(hl:css.length=xs.length)
 (hr:∀i(h:i<xs.length),T.rd w B (css[i]'ar) xs[i])(hc:∀k u,css.flatten[k]?=O u->w.cell? ⟨b,off+k,U⟩=O u):cG T w B (O ⟨b,off,U⟩) xs:=λ i hi=>by
 refine⟨b,off,css[i]'ar,rfl,hb,hr i hi,λ j u hu=>?_⟩
 have hn:∀c∈css,c.length=T.n:=λ c hc'=>by obtain⟨k,hk,rfl⟩:=bo.1 hc';exact T.len (hr k ar)
 have hj:j<T.n:=by have h1:=T.len (hr i hi);have :=(ai.1 hu).1;omega
 have :=kO css i j _ hn (af ar) hj;rw[hu] at this;rw[fu];exact hc _ u this
theorem cG.of_block{α:Type}{T:Ty α}{w:agb}{B b t:Nat}{C:Array R}{xs:List α}(css:List (List R))(hh:w.heap[b]?=O (D C t (0,0)))(hb:b<B)(hl:css.length=xs.length)
 (hr:∀i(h:i<xs.length),T.rd w B (css[i]'ar) xs[i])(hC:C.toList=css.flatten):cG T w B (O ⟨b,0,U⟩) xs:=
 cG.of_flat css hb hl hr λ k u hu=>by rw[<-hC] at hu;simp only[World.cell?,hh,Option.isSome_none,bX];simpa using hu
def oH:R->Option Nat
 |M (O a)=>O a.block
 |G (O a) _ _=>O a.block
 |_=>U
def tO(P:Program)(w:agb)(aap:R->agb->Prop):Result Next->Prop
 | .ok (.value u) w'=>aZ w w'/\aap u w'/\∀b,oH u=O b->w.heap.size<=b/\b<w'.heap.size
 | .ok (.enter f args) w'=>w'=w/\Calls P f args w λ e w''=>∃u,e=.returned u/\aZ w w''/\aap u w''/\∀b,oH u=O b->w.heap.size<=b/\b<w''.heap.size
 |_=>False
def mute(o:Oper):Oper:={o with op:=.move (.const undef)}
def og(wl:List Nat):Nat->List Oper->List Oper
 |_,[]=>[]
 |i,o::r=>(if wl.contains i then mute o else o)::og wl (i+1) r
theorem yN(wl:List Nat):∀(l:List Oper)(i k:Nat),(og wl i l)[k]?=(l[k]?).map λ o=>if wl.contains (i+k) then mute o else o
 |[],i,k=>by simp[og]
 |o::r,i,0=>by simp[og]
 |o::r,i,k+1=>by
  simp only[og,List.getElem?_cons_succ];rw[yN wl r (i+1) k];congr 2
  funext o
  rw[show i+1+k=i+(k+1) from ar]
section
variable{P:Program}{ops:Array Oper}{md:Region.Mode}{C:agb->Prop}
theorem tP{a:Act}{d:Option Tmp}{v:R}{t:Nat}(h:d≠O t):(a.put d v).tmps[t]?=a.tmps[t]?:=by
 cases d with
 |none=>rfl
 |some e=>exact Array.getElem?_setIfInBounds_ne (λ he=>h (by rw[he]))
theorem put_eq{a:Act}{v:R}{t:Nat}(h:t<a.tmps.size):(a.put (O t) v).tmps[t]?=O v:=by show(a.tmps.setIfInBounds t v)[t]?=_;rw[Array.getElem?_setIfInBounds_self,if_pos h]
theorem ry(a:Act)(d:Option Tmp)(v:R):(a.put d v).tmps.size=a.tmps.size:=by
 cases d with
 |none=>rfl
 |some e=>exact Array.size_setIfInBounds
theorem put_defers(a:Act)(d:Option Tmp)(v:R):(a.put d v).defers=a.defers:=by cases d<;>rfl
theorem Cj:∀(l:List Oper)(a aF:Act),l.Pairwise (λ o o'=>∀t,o.dst=O t->o'.dst≠O t)->wpQuiet P ops C (λ a'=>a'=aF) l a->
 aF.tmps.size=a.tmps.size/\aF.defers=a.defers/\(∀t,(∀o∈l,o.dst≠O t)->aF.tmps[t]?=a.tmps[t]?)/\
 ∀k o,l[k]?=O o->∃aL v,YieldsIn P ops C o v aL/\(∀t,o.dst=O t->t<a.tmps.size->aF.tmps[t]?=O v)/\
  (∀t,(∀(k':Nat)(o':Oper),k'<k->l[k']?=O o'->o'.dst≠O t)->aL.tmps[t]?=a.tmps[t]?)/\(∀t,(∀(k':Nat)(o':Oper),k<=k'->l[k']?=O o'->o'.dst≠O t)->aL.tmps[t]?=aF.tmps[t]?)
 |[],a,aF,_,h=>by
  have e:a=aF:=h;subst e;exact⟨rfl,rfl,λ _ _=>rfl,λ k o hk=>by simp at hk⟩
 |o::l,a,aF,hd,h=>by
  obtain⟨aG,dt⟩:=j8.1 hd
  obtain⟨v,hy,hr⟩:∃v,YieldsIn P ops C o v a/\wpQuiet P ops C (λ a'=>a'=aF) l (a.put o.dst v):=by
   unfold wpQuiet at h;by_cases hw:Region.wanted o (yielded ops a.tmps)=true
   · rw[if_pos hw] at h
     obtain⟨v,h1,h2⟩:=h;exact⟨v,.inl ⟨hw,h1⟩,h2⟩
   · rw[if_neg hw] at h
     exact⟨undef,.inr ⟨by simpa using hw,rfl⟩,h⟩
  obtain⟨s1,s2,s3,s4⟩:=Cj l (a.put o.dst v) aF dt hr;rw[ry] at s1;rw[put_defers] at s2
  have s3':∀t,(∀x∈o::l,x.dst≠O t)->aF.tmps[t]?=a.tmps[t]?:=λ t ht=>by rw[s3 t (λ x hx=>ht x (di _ hx)),tP (ht o (dA ..))]
  refine⟨s1,s2,s3',λ k x hk=>?_⟩;cases k with
  |zero=>
   have e:o=x:=by simpa using hk
   subst e;refine⟨a,v,hy,λ t ht hlt=>?_,λ t _=>rfl,λ t ht=>?_⟩
   · rw[s3 t (λ y hy'=>aG y hy' t ht),ht]
     exact put_eq hlt
   · refine(s3' t λ y hy'=>?_).symm
     obtain⟨k',qq,rfl⟩:=bo.1 hy';exact ht k' _ ar (af qq)
  |succ k=>
   obtain⟨aL,v',y1,y2,y3,y4⟩:=s4 k x (by simpa using hk);refine⟨aL,v',y1,λ t ht hlt=>y2 t ht (by rw[ry];exact hlt),λ t ht=>?_,λ t ht=>?_⟩
   · rw[y3 t (λ k' o' qq uH=>ht (k'+1) o' ar (by simpa using uH))]
     exact tP (ht 0 o ar rfl)
   · exact y4 t (λ k' o' qq uH=>ht (k'+1) o' ar (by simpa using uH))
theorem Ck{o:Oper}(hs:∀cs b,o.op≠ .select cs b){a a':Act}(h:∀t∈o.looksAt ops,a.tmps[t]?=a'.tmps[t]?):execOp a.eval o=execOp a'.eval o:=
 execOp_congr o hs λ x hx=>by
  cases x with
  |tmp t=>
   have :=h t (List.mem_append_left _ (List.mem_filterMap.2 ⟨.tmp t,by simpa using hx,rfl⟩));simp only[Act.eval,gG,this]
  |_=>rfl
theorem GC{o:Oper}{a a':Act}(h:∀t∈o.looksAt ops,a.tmps[t]?=a'.tmps[t]?):Region.wanted o (yielded ops a.tmps)=Region.wanted o (yielded ops a'.tmps):=by
 unfold Region.wanted;cases hg:o.guard with
 |none=>rfl
 |some gw=>
  obtain⟨g,want⟩:=gw
  have hy:yielded ops a.tmps g=yielded ops a'.tmps g:=by
   unfold yielded;cases ht:(ops[g]?).bind (·.dst) with
   |none=>rfl
   |some t=>
    have :=h t (by simp[Oper.looksAt,hg,ht]);simp only[lH,this]
  simp only[hy]
end
def xG(n k:Nat):Array Bool:=((List.range k).map λ i=>decide (i<n)).toArray
def Nu(md:Region.Mode)(ops:Array Oper)(n:Nat)(wl:List Nat)(m:Nat):Bool:=
 Region.noSelect ops&&decide (n<ops.size)&&Region.sinkB md ops n&&Region.chainB md ops n&&Region.seqB md ops (ops.size - n) n (xG n ops.size)&&
 (List.range n).all (λ i=>match ops[i]? with
  |some o=>(o.after.all λ e=>!Region.binds md e||decide (e.on<i))&&(match o.dst with |some t=>decide (t<m)|none=>true)&&
   (List.range n).all (λ j=>match ops[j]? with
    |some o'=>(match o'.dst with
     |some t=>(decide (i=j)||o.dst !=O t)&&(!(o.looksAt ops).contains t||(decide (j<i)&&!wl.contains j&&Region.waitsFor md ops i j))
     |none=>true)
    |none=>true)
  |none=>false)&&
 wl.all (λ j=>decide (j<n)&&(match ops[j]? with |some o=>o.guard.isNone&&o.dst.isSome|none=>false))
structure vR(md:Region.Mode)(ops:Array Oper)(n:Nat)(wl:List Nat)(m:Nat):Prop where
 sel:Region.noSelect ops=true
 lt:n<ops.size
 sink:Region.sinkB md ops n=true
 chain:Region.chainB md ops n=true
 seq:Region.seqB md ops (ops.size - n) n (xG n ops.size)=true
 back:∀i o,i<n->ops[i]?=O o->∀e∈o.after,Region.binds md e=true->e.on<i
 room:∀i o t,i<n->ops[i]?=O o->o.dst=O t->t<m
 Ll:∀i j o o' t,i<n->j<n->i≠j->ops[i]?=O o->ops[j]?=O o'->o.dst=O t->o'.dst≠O t
 look:∀i j o o' t,i<n->j<n->ops[i]?=O o->ops[j]?=O o'->t∈o.looksAt ops->o'.dst=O t->j<i/\j∉wl/\Region.waitsFor md ops i j=true
 vT:∀j∈wl,j<n/\∃o t,ops[j]?=O o/\o.guard=U/\o.dst=O t
theorem vR.of{md:Region.Mode}{ops:Array Oper}{n:Nat}{wl:List Nat}{m:Nat}(h:Nu md ops n wl m=true):vR md ops n wl m:=by
 unfold Nu at h;simp only[aD,decide_eq_true_eq] at h;obtain⟨⟨⟨⟨⟨⟨h1,h2⟩,h3⟩,h4⟩,h5⟩,h6⟩,h7⟩:=h
 have key:∀i o,i<n->ops[i]?=O o->(o.after.all λ e=>!Region.binds md e||decide (e.on<i))=true/\(match o.dst with |some t=>decide (t<m)|none=>true)=true/\
  ∀j o',j<n->ops[j]?=O o'->∀t,o'.dst=O t->(i=j\/o.dst≠O t)/\(t∈o.looksAt ops->j<i/\j∉wl/\Region.waitsFor md ops i j=true):=λ i o hi ho=>by
  have k:=cY.1 h6 i (bG.2 hi);rw[ho] at k;simp only[aD] at k;refine⟨k.1.1,k.1.2,λ j o' hj uH t ht=>?_⟩;have k2:=cY.1 k.2 j (bG.2 hj);rw[uH] at k2;simp only[ht,aD,Bool.or_eq_true,decide_eq_true_eq,bne_iff_ne,ne_eq,Bool.not_eq_true',List.contains_eq_mem,decide_eq_false_iff_not] at k2;refine⟨k2.1,λ lY=>?_⟩;rcases k2.2 with hno|⟨⟨a1,a2⟩,a3⟩
  · exact absurd lY hno
  · exact⟨a1,a2,a3⟩
 refine⟨h1,h2,h3,h4,h5,λ i o hi ho e he hb=>?_,λ i o t hi ho ht=>?_,λ i j o o' t hi hj hne ho uH ht GD=>?_,λ i j o o' t hi hj ho uH lY GD=>?_,λ j hj=>?_⟩
 · have :=dJ.1 (key i o hi ho).1 e he
   simpa [hb] using this
 · have :=(key i o hi ho).2.1
   simpa [ht] using this
 · rcases((key i o hi ho).2.2 j o' hj uH t GD).1 with h|h
   · exact hne h
   · exact h ht
 · exact((key i o hi ho).2.2 j o' hj uH t GD).2 lY
 · have k:=cY.1 h7 j hj
   simp only[aD,decide_eq_true_eq] at k;cases ho:ops[j]? with
   |none=>rw[ho] at k;simp at k
   |some o=>
    rw[ho] at k;simp only[aD,Option.isNone_iff_eq_none,Option.isSome_iff_exists] at k;obtain⟨t,ht⟩:=k.2.2;exact⟨k.1,o,t,rfl,k.2.1,ht⟩
def kN(ops:Array Oper)(xs:Nat->R):List Nat->Act->Act
 |[],a=>a
 |j::r,a=>kN ops xs r (a.put ((ops[j]?).bind (·.dst)) (xs j))
structure EP(ops:Array Oper)(n:Nat)(wl:List Nat)(aap:Nat->R->agb->Prop)(W:agb)(a0 aF:Act)(listed:Array Bool)(a:Act)(w:agb):Prop where
 size:a.tmps.size=a0.tmps.size
 defers:a.defers=a0.defers
 below:aZ W w
 old:∀t,(∀j o,j<n->listed.getD j false=true->ops[j]?=O o->o.dst≠O t)->a.tmps[t]?=a0.tmps[t]?
 quiet:∀j o t,j<n->listed.getD j false=true->j∉wl->ops[j]?=O o->o.dst=O t->a.tmps[t]?=aF.tmps[t]?
 made:∀j o t,j∈wl->listed.getD j false=true->ops[j]?=O o->o.dst=O t->aap j (a.tmps.getD t undef) w
 own:∀j o t b,j∈wl->listed.getD j false=true->ops[j]?=O o->o.dst=O t->oH (a.tmps.getD t undef)=O b->b<w.heap.size
 apart:∀j k o o' t t' b,j∈wl->k∈wl->j≠k->listed.getD j false=true->listed.getD k false=true->ops[j]?=O o->ops[k]?=O o'->o.dst=O t->o'.dst=O t'->
  oH (a.tmps.getD t undef)=O b->oH (a.tmps.getD t' undef)≠O b
section
variable{P:Program}{ops:Array Oper}{md:Region.Mode}{n m:Nat}{wl:List Nat}{aap:Nat->R->agb->Prop}{W:agb}{a0 aF:Act}
theorem gK{listed:Array Bool}{i j:Nat}(hi:i<listed.size):(listed.setIfInBounds i true).getD j false=true↔(j=i\/listed.getD j false=true):=by
 by_cases h:i=j
 · subst h
   simp[hi]
 · rw[getD_set_ne false h]
   exact⟨Or.inr,λ h'=>h'.resolve_left (λ e=>h e.symm)⟩
theorem jD{a:Act}{d:Option Tmp}{v:R}{t:Nat}(h:d≠O t):(a.put d v).tmps.getD t undef=a.tmps.getD t undef:=by simp only[gG,tP h]
theorem EP.sg(ok:vR md ops n wl m)(hst:∀j v w w',aap j v w->aZ w w'->aap j v w'){listed:Array Bool}{a:Act}{w w':agb}(inv:EP ops n wl aap W a0 aF listed a w)
 {i:Nat}{o:Oper}{v:R}(hi:i<n)(hs:i<listed.size)(ho:ops[i]?=O o)(hw:i∉wl)(Ld:listed.getD i false=false)(hsz:a0.tmps.size=m)(hv:∀t,o.dst=O t->t<a0.tmps.size->aF.tmps[t]?=O v)(hb:aZ w w'):
 EP ops n wl aap W a0 aF (listed.setIfInBounds i true) (a.put o.dst v) w':=by
 have BU:∀j oj t,j∈wl->ops[j]?=O oj->oj.dst=O t->o.dst≠O t:=λ j oj t hj lJ ht h=>by have AV:j≠i:=λ e=>hw (e▸hj);exact ok.Ll j i oj o t (ok.vT j hj).1 hi AV lJ ho ht h
 have Nv:∀j,j∈wl->(listed.setIfInBounds i true).getD j false=true->listed.getD j false=true:=λ j hj hl=>by
  rcases(gK hs).1 hl with e|h
  · exact absurd (e▸hj) hw
  · exact h
 refine⟨by rw[ry];exact inv.size,by rw[put_defers];exact inv.defers,inv.below.trans (hb.mono inv.below.size),λ t ht=>?_,λ j oj t hj hl Zc lJ ht=>?_,λ j oj t hj hl lJ ht=>?_,λ j oj t b hj hl lJ ht pX=>?_,?_⟩
 · rw[tP (ht i o hi ((gK hs).2 (.inl rfl)) ho)]
   exact inv.old t λ j oj hj hl lJ=>ht j oj hj ((gK hs).2 (.inr hl)) lJ
 · by_cases e:j=i
   · subst e
     have :oj=o:=aO (lJ.symm.trans ho);subst this;have hlt:t<a0.tmps.size:=by rw[hsz];exact ok.room j oj t hj lJ ht
     rw[ht,put_eq (by rw[inv.size];exact hlt),hv t ht hlt]
   · rw[tP (λ h=>ok.Ll i j o oj t hi hj (λ e'=>e e'.symm) ho lJ h ht)]
     exact inv.quiet j oj t hj (((gK hs).1 hl).resolve_left e) Zc lJ ht
 · rw[jD (BU j oj t hj lJ ht)]
   exact hst _ _ _ _ (inv.made j oj t hj (Nv j hj hl) lJ ht) hb
 · rw[jD (BU j oj t hj lJ ht)] at pX
   exact dI (inv.own j oj t b hj (Nv j hj hl) lJ ht pX) hb.size
 · intro j k oj ok' t t' b hj hk hne Lm hlk lJ gU ht GD h1
   rw[jD (BU j oj t hj lJ ht)] at h1;rw[jD (BU k ok' t' hk gU GD)];exact inv.apart j k oj ok' t t' b hj hk hne (Nv j hj Lm) (Nv k hk hlk) lJ gU ht GD h1
theorem EP.Fi(ok:vR md ops n wl m)(hst:∀j v w w',aap j v w->aZ w w'->aap j v w'){listed:Array Bool}{a:Act}{w w':agb}(inv:EP ops n wl aap W a0 aF listed a w)
 {i:Nat}{o:Oper}{u:R}(hs:i<listed.size)(ho:ops[i]?=O o)(hw:i∈wl)(Ld:listed.getD i false=false)(hsz:a0.tmps.size=m)(hb:aZ w w')(hR:aap i u w')
 (AX:∀b,oH u=O b->w.heap.size<=b/\b<w'.heap.size):EP ops n wl aap W a0 aF (listed.setIfInBounds i true) (a.put o.dst u) w':=by
 obtain⟨hi,o',t0,uH,_,ht0⟩:=ok.vT i hw;have :o'=o:=aO (uH.symm.trans ho);subst this;have hlt:t0<a.tmps.size:=by rw[inv.size,hsz];exact ok.room i o' t0 hi ho ht0
 have self:(a.put o'.dst u).tmps.getD t0 undef=u:=by rw[ht0,gG,put_eq hlt];rfl
 have other:∀j oj t,j<n->j≠i->ops[j]?=O oj->oj.dst=O t->o'.dst≠O t:=λ j oj t hj hne lJ ht h=>ok.Ll j i oj o' t hj hi hne lJ ho ht h
 have Nw:∀oj t,ops[i]?=O oj->oj.dst=O t->t=t0:=λ oj t lJ ht=>by have :oj=o':=aO (lJ.symm.trans ho);subst this;rw[ht0] at ht;exact(aO ht).symm
 refine⟨by rw[ry];exact inv.size,by rw[put_defers];exact inv.defers,inv.below.trans (hb.mono inv.below.size),λ t ht=>?_,λ j oj t hj hl Zc lJ ht=>?_,λ j oj t hj hl lJ ht=>?_,λ j oj t b hj hl lJ ht pX=>?_,?_⟩
 · rw[tP (ht i o' hi ((gK hs).2 (.inl rfl)) ho)]
   exact inv.old t λ j oj hj hl lJ=>ht j oj hj ((gK hs).2 (.inr hl)) lJ
 · have e:j≠i:=λ e=>Zc (e▸hw)
   rw[tP (other j oj t hj e lJ ht)];exact inv.quiet j oj t hj (((gK hs).1 hl).resolve_left e) Zc lJ ht
 · by_cases e:j=i
   · subst e
     rw[Nw oj t lJ ht,self];exact hR
   · rw[jD (other j oj t (ok.vT j hj).1 e lJ ht)]
     exact hst _ _ _ _ (inv.made j oj t hj (((gK hs).1 hl).resolve_left e) lJ ht) hb
 · by_cases e:j=i
   · subst e
     rw[Nw oj t lJ ht,self] at pX;exact(AX b pX).2
   · rw[jD (other j oj t (ok.vT j hj).1 e lJ ht)] at pX
     exact dI (inv.own j oj t b hj (((gK hs).1 hl).resolve_left e) lJ ht pX) hb.size
 · intro j k oj ok' t t' b hj hk hne Lm hlk lJ gU ht GD h1
   by_cases ej:j=i
   · subst ej
     have ek:k≠j:=λ e=>hne e.symm;rw[Nw oj t lJ ht,self] at h1;rw[jD (other k ok' t' (ok.vT k hk).1 ek gU GD)];intro h2;have :=inv.own k ok' t' b hk (((gK hs).1 hlk).resolve_left ek) gU GD h2;have :=(AX b h1).1;omega
   · rw[jD (other j oj t (ok.vT j hj).1 ej lJ ht)] at h1
     have adN:=((gK hs).1 Lm).resolve_left ej;by_cases ek:k=i
     · subst ek
       rw[Nw ok' t' gU GD,self];intro h2;have :=inv.own j oj t b hj adN lJ ht h1;have :=(AX b h2).1;omega
     · rw[jD (other k ok' t' (ok.vT k hk).1 ek gU GD)]
       exact inv.apart j k oj ok' t t' b hj hk hne adN (((gK hs).1 hlk).resolve_left ek) lJ gU ht GD h1
theorem I0(xs:Nat->R):∀(r:List Nat)(a:Act),(kN ops xs r a).tmps.size=a.tmps.size
 |[],_=>rfl
 |j::r,a=>by rw[kN,I0 xs r,ry]
theorem vv(xs:Nat->R):∀(r:List Nat)(a:Act),(kN ops xs r a).defers=a.defers
 |[],_=>rfl
 |j::r,a=>by rw[kN,vv xs r,put_defers]
theorem uI(xs:Nat->R){t:Nat}:∀(r:List Nat)(a:Act),(∀j∈r,∀o,ops[j]?=O o->o.dst≠O t)->(kN ops xs r a).tmps[t]?=a.tmps[t]?
 |[],_,_=>rfl
 |j::r,a,h=>by
  rw[kN,uI xs r _ (λ k hk=>h k (di _ hk))];cases ho:ops[j]? with
  |none=>rfl
  |some o=>exact tP (h j (dA ..) o ho)
theorem Fj(xs:Nat->R){t j:Nat}{o:Oper}(ho:ops[j]?=O o)(ht:o.dst=O t):∀(r:List Nat)(a:Act),j∈r->t<a.tmps.size->
 (∀k∈r,k≠j->∀o',ops[k]?=O o'->o'.dst≠O t)->(kN ops xs r a).tmps[t]?=O (xs j)
 |[],_,h,_,_=>by cases h
 |k::r,a,h,hlt,hd=>by
  rw[kN];by_cases hr:j∈r
  · exact Fj xs ho ht r _ hr (by rw[ry];exact hlt) (λ k' qq=>hd k' (di _ qq))
  · have e:k=j:=by
     rcases aR.1 h with h|h
     · exact h.symm
     · exact absurd h hr
    subst e;rw[uI xs r _ (λ k' qq o' uH=>hd k' (di _ qq) (λ e=>hr (e▸qq)) o' uH),ho];simp only[lH,ht];exact put_eq hlt
theorem EP.frame(ok:vR md ops n wl m){listed:Array Bool}{a:Act}{w:agb}(inv:EP ops n wl aap W a0 aF listed a w)(hall:∀j,j<n->listed.getD j false=true)(hsz:a0.tmps.size=m)
 (f1:aF.tmps.size=a0.tmps.size)(f2:aF.defers=a0.defers)(f3:∀t,(∀j o,j<n->ops[j]?=O o->o.dst≠O t)->aF.tmps[t]?=a0.tmps[t]?):
 a=kN ops (λ j=>a.tmps.getD (((ops[j]?).bind (·.dst)).getD 0) undef) wl aF:=by
 have hd:a.defers=(kN ops (λ j=>a.tmps.getD (((ops[j]?).bind (·.dst)).getD 0) undef) wl aF).defers:=by rw[vv,f2,inv.defers]
 have ht:a.tmps=(kN ops (λ j=>a.tmps.getD (((ops[j]?).bind (·.dst)).getD 0) undef) wl aF).tmps:=by
  apply jt
  intro t;by_cases hex:∃j o,j<n/\ops[j]?=O o/\o.dst=O t
  · obtain⟨j,o,hj,ho,hdt⟩:=hex
    have hlt:t<a0.tmps.size:=by rw[hsz];exact ok.room j o t hj ho hdt
    by_cases hw:j∈wl
    · rw[Fj _ ho hdt wl aF hw (by rw[f1];exact hlt) (λ k hk hne o' uH h'=>ok.Ll k j o' o t (ok.vT k hk).1 hj hne uH ho h' hdt)]
      simp only[ho,lH,hdt,dD];rw[gG,cP (by rw[inv.size];exact hlt)];rfl
    · rw[uI _ wl aF (λ k hk o' uH h'=>ok.Ll k j o' o t (ok.vT k hk).1 hj (λ e=>hw (e▸hk)) uH ho h' hdt)]
      exact inv.quiet j o t hj (hall j hj) hw ho hdt
  · have hno:∀j o,j<n->ops[j]?=O o->o.dst≠O t:=λ j o hj ho h=>hex ⟨j,o,hj,ho,h⟩
    rw[uI _ wl aF (λ k hk o' uH=>hno k o' (ok.vT k hk).1 uH),f3 t hno];exact inv.old t λ j o hj _ ho=>hno j o hj ho
 generalize kN ops (λ j=>a.tmps.getD (((ops[j]?).bind (·.dst)).getD 0) undef) wl aF=b at hd ht;obtain⟨at1,ad1⟩:=a;obtain⟨bt1,bd1⟩:=b;simp only at hd ht;rw[hd,ht]
theorem exists_least:∀(l:List Nat),l≠ []->∃i∈l,∀j∈l,i<=j
 |[],h=>absurd rfl h
 |[x],_=>⟨x,bY,bY⟩
 |x::y::r,_=>by
  obtain⟨i,hi,hm⟩:=exists_least (y::r) bY;by_cases h:x<=i
  · exact⟨x,bY,λ j hj=>by rcases aR.1 hj with rfl|hj;exact ah _;exact bm h (hm j hj)⟩
  · exact⟨i,di _ hi,λ j hj=>by rcases aR.1 hj with rfl|hj;omega;exact hm j hj⟩
theorem xH{listed:Array Bool}{i:Nat}(hi:i<listed.size):listed.getD i true=listed.getD i false:=by simp[hi]
theorem RF{Q:lC}(ok:vR md ops n wl m)(hst:∀j v w w',aap j v w->aZ w w'->aap j v w')(hsz:a0.tmps.size=m)
 (H1:∀X,aZ W X->wpQuiet P ops (λ w'=>∃u,w'=ext X u) (λ a'=>a'=aF) (og wl 0 (ops.toList.take n)) a0)
 (H2:∀j∈wl,∀o,ops[j]?=O o->∀w,aZ W w->tO P w (aap j) ((execOp aF.eval o).run P w))
 (H3:∀(xs:Nat->R)(w:agb),aZ W w->(∀j∈wl,aap j (xs j) w)->(∀j∈wl,∀k∈wl,j≠k->∀b,oH (xs j)=O b->oH (xs k)≠O b)->(∀j∈wl,∀b,oH (xs j)=O b->b<w.heap.size)->
  wpList P ops Q (ops.toList.drop n) (kN ops xs wl aF) w):
 ∀(f:Nat)(rem:List Nat)(listed:Array Bool)(a:Act)(w:agb),rem.length=f->rem.Nodup->(∀i,i∈rem↔i<n/\listed.getD i true=false)->HeadInv md ops n listed->EP ops n wl aap W a0 aF listed a w->
  wpAny P md ops Q (f+(ops.size - n)) listed a w:=by
 have aib:∀k o,k<n->ops[k]?=O o->(og wl 0 (ops.toList.take n))[k]?=O (if wl.contains k then mute o else o):=λ k o hk ho=>by
  rw[yN,List.getElem?_take_of_lt hk];have :ops.toList[k]?=O o:=by simpa using ho
  rw[this];simp
 have I3:∀k o',(og wl 0 (ops.toList.take n))[k]?=O o'->k<n/\∃o,ops[k]?=O o/\o'.dst=o.dst:=λ k o' h=>by
  rw[yN] at h;cases hk:(ops.toList.take n)[k]? with
  |none=>rw[hk] at h;simp at h
  |some o=>
   rw[hk] at h
   have zX:k<n:=by have :=(ai.1 hk).1;have :=List.length_take_le n ops.toList;omega
   rw[List.getElem?_take_of_lt zX] at hk;refine⟨zX,o,by simpa using hk,?_⟩;simp only[ja,cQ] at h;rw[<-h];split<;>rfl
 have pw:(og wl 0 (ops.toList.take n)).Pairwise (λ o o'=>∀t,o.dst=O t->o'.dst≠O t):=by rw[eG];intro i j hi hj VX t h1 h2;obtain⟨lY,o,ho,e1⟩:=I3 i _ (af hi);obtain⟨hjn,o',uH,e2⟩:=I3 j _ (af hj);rw[e1] at h1;rw[e2] at h2;exact ok.Ll i j o o' t lY hjn ar ho uH h1 h2
 have base:=Cj _ a0 aF pw (H1 W (aA _ _))
 have f3:∀t,(∀j o,j<n->ops[j]?=O o->o.dst≠O t)->aF.tmps[t]?=a0.tmps[t]?:=λ t ht=>base.2.2.1 t λ x hx=>by obtain⟨k,hk,rfl⟩:=bo.1 hx;obtain⟨zX,o,ho,e⟩:=I3 k _ (af hk);rw[e];exact ht k o zX ho
 intro f;induction f with
 |zero=>
  intro rem listed a w hlen nJ kK hinv inv;have hnil:rem=[]:=fp hlen;subst hnil
  have hall:∀j,j<n->listed.getD j false=true:=λ j hj=>by
   have :¬(j<n/\listed.getD j true=false):=λ h=>by have :=(kK j).2 h;cases this
   have h1:listed.getD j true≠false:=λ h=>this ⟨hj,h⟩;rw[xH (by rw[hinv.size];have :=ok.lt;omega)] at h1;simpa using h1
  have hl:listed=xG n ops.size:=by
   apply Array.ext (by simp[xG,hinv.size])
   intro i h1 h2;have hi:i<ops.size:=by rw[<-hinv.size];exact h1
   simp only[xG,List.getElem_toArray,jT,List.getElem_range];by_cases lY:i<n
   · have :=hall i lY
     rw[gG,cP h1] at this;simpa [lY] using this
   · have :=hinv.tail i ar hi
     rw[gG,cP h1] at this;simpa [lY] using this
  rw[bX];have O1:=inv.frame ok hall hsz base.1 base.2.1 f3;have dgl:∀(j:Nat)(o:Oper)(t:Tmp),ops[j]?=O o->o.dst=O t->(((ops[j]?).bind (·.dst)).getD 0)=t:=λ j o t ho ht=>by simp[ho,ht]
  have h3:=H3 (λ j=>a.tmps.getD (((ops[j]?).bind (·.dst)).getD 0) undef) w inv.below
   (λ j hj=>by obtain⟨hjn,o,t,ho,_,ht⟩:=ok.vT j hj;rw[dgl j o t ho ht];exact inv.made j o t hj (hall j hjn) ho ht)
   (λ j hj k hk hne b h1=>by obtain⟨hjn,o,t,ho,_,ht⟩:=ok.vT j hj;obtain⟨zX,o',t',uH,_,GD⟩:=ok.vT k hk;rw[dgl j o t ho ht] at h1;rw[dgl k o' t' uH GD];exact inv.apart j k o o' t t' b hj hk hne (hall j hjn) (hall k zX) ho uH ht GD h1)
   (λ j hj b h1=>by obtain⟨hjn,o,t,ho,_,ht⟩:=ok.vT j hj;rw[dgl j o t ho ht] at h1;exact inv.own j o t b hj (hall j hjn) ho ht h1)
  rw[<-O1] at h3;have hdl:(ops.toList.drop n).length=ops.size - n:=bY;have :=wpAny_of_seq (md:=md) (Q':=Q) (ops.toList.drop n) n listed a w (λ j=>by simp[ju]) (by rw[hdl,hl];exact ok.seq) h3;rwa [hdl] at this
 |succ f ih=>
  intro rem listed a w hlen nJ kK hinv inv;have hne:rem≠ []:=λ h=>by rw[h] at hlen;simp at hlen
  obtain⟨i0,Q6,aic⟩:=exists_least rem hne;obtain⟨adO,adP⟩:=(kK i0).1 Q6
  have Nx:i0∈Region.ready md ops listed:=by
   have hlt:i0<ops.size:=by have :=ok.lt;omega
   refine mem_ready.2 ⟨adP,ops[i0],cP hlt,λ e he hb=>?_⟩;have aoE:=ok.back i0 _ adO (cP hlt) e he hb
   have h1:¬(e.on<n/\listed.getD e.on true=false):=λ h=>by have :=aic _ ((kK e.on).2 h);omega
   have h2:listed.getD e.on true≠false:=λ h=>h1 ⟨ar,h⟩;rw[xH (by rw[hinv.size];omega)] at h2;simpa using h2
  rw[show f+1+(ops.size - n)=(f+(ops.size - n))+1 from ar];refine⟨λ h=>(by rw[h] at Nx;cases Nx),λ i hi=>?_⟩
  have lY:i<n:=by
   rcases eC i n with h|h
   · exact h
   · exact absurd hi (tail_waits ok.sink ok.chain ok.lt hinv _ i0 rfl adO adP i h)
  obtain⟨hiu,o,ho,aaj⟩:=mem_ready.1 hi;have RG:i<listed.size:=by rw[hinv.size];have :=ok.lt;omega
  have O2:listed.getD i false=false:=getD_both hiu;have adQ:i∈rem:=(kK i).2 ⟨lY,hiu⟩
  have next:∀a' w',EP ops n wl aap W a0 aF (listed.setIfInBounds i true) a' w'->wpAny P md ops Q (f+(ops.size - n)) (listed.setIfInBounds i true) a' w':=λ a' w' aid=>by
   refine ih (rem.erase i) _ a' w' (by rw[List.length_erase_of_mem adQ];omega) (nJ.erase i) (λ k=>?_) (hinv.set hi lY) aid;rw[nJ.mem_erase_iff,kK k];have hks:k<n->k<listed.size:=λ h=>by rw[hinv.size];have :=ok.lt;omega
   by_cases Ny:k=i
   · subst Ny
     simp[RG]
   · rw[getD_set_ne true (λ e=>Ny e.symm)]
     exact⟨λ h=>h.2,λ h=>⟨Ny,h⟩⟩
  have waits:∀j,Region.waitsFor md ops i j=true->listed.getD j false=true:=λ j hw=>by obtain⟨oi,hoi,e,he,hb,pY⟩:=Region.waitsFor_spec hw;have :oi=o:=aO (hoi.symm.trans ho);subst this;rw[<-pY];exact aaj e he hb
  have oM:=Region.noSelect_spec ok.sel;unfold wpOp;simp only[ho];by_cases hw:i∈wl
  · obtain⟨_,o',t,uH,hg,ht⟩:=ok.vT i hw
    have :o'=o:=aO (uH.symm.trans ho);subst this
    have agree:∀t∈o'.looksAt ops,a.tmps[t]?=aF.tmps[t]?:=λ t O3=>by
     by_cases hex:∃j oj,j<n/\ops[j]?=O oj/\oj.dst=O t
     · obtain⟨j,oj,hj,lJ,hdj⟩:=hex
       obtain⟨_,Zc,hwt⟩:=ok.look i j o' oj t lY hj ho lJ O3 hdj;exact inv.quiet j oj t hj (waits j hwt) Zc lJ hdj
     · have hno:∀j oj,j<n->ops[j]?=O oj->oj.dst≠O t:=λ j oj hj lJ h=>hex ⟨j,oj,hj,lJ,h⟩
       rw[f3 t hno];exact inv.old t λ j oj hj _ lJ=>hno j oj hj lJ
    have I4:Region.wanted o' (yielded ops a.tmps)=true:=by simp[Region.wanted,hg]
    rw[if_pos I4];left
    have h2:=H2 i hw o' ho w inv.below;rw[<-Ck (oM i o' · · ho) agree] at h2;unfold Oper.wp;generalize(execOp a.eval o').run P w=r at h2;cases r with
    |halt x w'=>exact h2.elim
    |ok nx w'=>
     cases nx<;>simp only[tO] at h2<;>simp only[Oper.upon]
     case value u=>obtain⟨hb,hR,AX⟩:=h2;exact next _ _ (inv.Fi ok hst RG ho hw O2 hsz hb hR AX)
     case enter fn args=>
      obtain⟨rfl,hc⟩:=h2
      exact hc.mono λ e w'' ⟨u,he,hb,hR,AX⟩=>by subst he;exact next _ _ (inv.Fi ok hst RG ho hw O2 hsz hb hR AX)
  · obtain⟨s1,s2,s3,s4⟩:=Cj _ a0 aF pw (H1 w inv.below)
    obtain⟨aL,v,y1,y2,y3,y4⟩:=s4 i o (by rw[aib i o lY ho];simp[hw])
    have agree:∀t∈o.looksAt ops,a.tmps[t]?=aL.tmps[t]?:=λ t O3=>by
     by_cases hex:∃j oj,j<n/\ops[j]?=O oj/\oj.dst=O t
     · obtain⟨j,oj,hj,lJ,hdj⟩:=hex
       obtain⟨AV,Zc,hwt⟩:=ok.look i j o oj t lY hj ho lJ O3 hdj;rw[inv.quiet j oj t hj (waits j hwt) Zc lJ hdj];refine(y4 t λ k' o' qq uH h'=>?_).symm;obtain⟨zX,ok',gU,e⟩:=I3 k' o' uH;rw[e] at h';exact ok.Ll j k' oj ok' t hj zX ar lJ gU hdj h'
     · have hno:∀j oj,j<n->ops[j]?=O oj->oj.dst≠O t:=λ j oj hj lJ h=>hex ⟨j,oj,hj,lJ,h⟩
       rw[inv.old t λ j oj hj _ lJ=>hno j oj hj lJ];refine(y3 t λ k' o' qq uH h'=>?_).symm;obtain⟨zX,ok',gU,e⟩:=I3 k' o' uH;rw[e] at h';exact hno k' ok' zX gU h'
    rw[GC agree];rcases y1 with⟨I4,hq⟩|⟨I4,rfl⟩
    · rw[if_pos I4]
      left
      have adR:∃u,w=ext w u:=by obtain⟨u,hu⟩:=dV (W:=w) (w':=w) (aA _ _);exact⟨u,hu.symm⟩
      have hq':=hq w adR;unfold Oper.quietAt at hq';rw[<-Ck (oM i o · · ho) agree] at hq';unfold Oper.wp;generalize(execOp a.eval o).run P w=r at hq';cases r with
      |halt x w'=>exact hq'.elim
      |ok nx w'=>
       cases nx<;>simp only[Oper.quietUpon] at hq'<;>simp only[Oper.upon]
       case value u=>obtain⟨e1,e2⟩:=hq';rw[e1,e2];exact next _ _ (inv.sg ok hst lY RG ho hw O2 hsz y2 (aA _ _))
       case skip=>obtain⟨e1,e2⟩:=hq';rw[e1,<-e2];exact next _ _ (inv.sg ok hst lY RG ho hw O2 hsz y2 (aA _ _))
       case enter fn args=>
        obtain⟨e1,hc⟩:=hq';rw[e1]
        exact hc.mono λ e w'' ⟨he,u,hu⟩=>by subst he;rw[hu];exact next _ _ (inv.sg ok hst lY RG ho hw O2 hsz y2 (aT w u))
    · rw[if_neg (by simp[I4])]
      exact next _ _ (inv.sg ok hst lY RG ho hw O2 hsz y2 (aA _ _))
theorem Cl{id:Nat}{Q:lC}{l:List Oper}{aF:Act}{wX:agb}(W:agb)(n m:Nat)(wl:List Nat)(aap:Nat->R->agb->Prop)(hX:aZ W wX)(hm:P.follows .mixedOrders=true)(hB:Nu .any l.toArray n wl m=true)
 (hsz:a0.tmps.size=m)(hst:∀j v w w',aap j v w->aZ w w'->aap j v w')
 (H1:∀X,aZ W X->wpQuiet P l.toArray (λ w'=>∃u,w'=ext X u) (λ a'=>a'=aF) (og wl 0 (l.take n)) a0)
 (H2:∀j∈wl,∀o,l[j]?=O o->∀w,aZ W w->tO P w (aap j) ((execOp aF.eval o).run P w))
 (H3:∀(xs:Nat->R)(w:agb),aZ W w->(∀j∈wl,aap j (xs j) w)->(∀j∈wl,∀k∈wl,j≠k->∀b,oH (xs j)=O b->oH (xs k)≠O b)->(∀j∈wl,∀b,oH (xs j)=O b->b<w.heap.size)->
  wpList P l.toArray Q (l.drop n) (kN l.toArray xs wl aF) w):
 (Code.region id l.toArray true).wp P Q a0 wX:=by
 have ok:=vR.of hB;refine wp_region_any hm ?_
 have :=RF (Q:=Q) (aF:=aF) ok hst hsz (by simpa using H1) (λ j hj o ho=>H2 j hj o (by simpa using ho)) (by simpa using H3) n (List.range n) (Array.replicate l.toArray.size false) a0 wX.drew bY List.nodup_range
  (λ i=>by rw[bG];have :=ok.lt;refine⟨λ h=>⟨h,?_⟩,λ h=>h.1⟩;rw[gG,Array.getElem?_replicate,if_pos ar];rfl)
  ⟨bY,λ j oj _ hl=>(by rw[getD_replicate_false] at hl;cases hl),λ t _ ht=>getD_in (by simpa using ht) (getD_replicate_false _ _)⟩
  ⟨rfl,rfl,hX.drew,λ _ _=>rfl,λ j o t _ hl=>(by rw[getD_replicate_false] at hl;cases hl),λ j o t _ hl=>(by rw[getD_replicate_false] at hl;cases hl),λ j o t b _ hl=>(by rw[getD_replicate_false] at hl;cases hl),
   λ j k o o' t t' b _ _ _ hl=>(by rw[getD_replicate_false] at hl;cases hl)⟩
 rw[show n+(l.toArray.size - n)=l.toArray.size by have :=ok.lt;omega] at this;exact this
end
theorem I5{P:Program}{a0:Act}{id:Nat}{Q:lC}{l:List Oper}{wX:agb}(W:agb)(n m:Nat)(wl:List Nat)(aap:Nat->R->agb->Prop)(hX:aZ W wX)(hm:P.follows .mixedOrders=true)(hB:Nu .any l.toArray n wl m=true)
 (hsz:a0.tmps.size=m)(hst:∀j v w w',aap j v w->aZ w w'->aap j v w')
 (H:∃aF:Act,(∀X,aZ W X->wpQuiet P l.toArray (λ w'=>∃u,w'=ext X u) (λ a'=>a'=aF) (og wl 0 (l.take n)) a0)/\
  (∀w,aZ W w->∀j∈wl,∀o,l[j]?=O o->tO P w (aap j) ((execOp aF.eval o).run P w))/\
  (∀(xs:Nat->R)(w:agb),aZ W w->(∀j∈wl,aap j (xs j) w)->(∀j∈wl,∀k∈wl,j≠k->∀b,oH (xs j)=O b->oH (xs k)≠O b)->(∀j∈wl,∀b,oH (xs j)=O b->b<w.heap.size)->
   wpList P l.toArray Q (l.drop n) (kN l.toArray xs wl aF) w)):
 (Code.region id l.toArray true).wp P Q a0 wX:=by
 obtain⟨aF,H1,H2,H3⟩:=H;exact Cl W n m wl aap hX hm hB hsz hst H1 (λ j hj o ho w hw=>H2 w hw j hj o ho) H3
def Cm(B:Nat)(o:Obj)(v:R)(w:agb):Prop:=∃b,v=M (O ⟨b,0,U⟩)/\B<=b/\w.heap[b]?=O o
theorem Cm.keep{B:Nat}{o:Obj}{v:R}{w w':agb}(h:Cm B o v w)(hb:aZ w w'):Cm B o v w':=by
 obtain⟨b,e,h1,h2⟩:=h;refine⟨b,e,h1,?_⟩;rw[hb.block b ?_]
 · exact h2
 · rcases eC b w.heap.size with h|h
   · exact h
   · rw[cI h] at h2;cases h2
theorem Ln{P:Program}{B:Nat}{w:agb}{o:Obj}{r:Result Next}(hb:B<=w.heap.size)(h:r=.ok (.value (M (O ⟨w.heap.size,0,U⟩))) (w.alloc o)):tO P w (Cm B o) r:=by
 subst h;refine⟨(aA _ _).alloc (ah _) _,⟨_,rfl,hb,heap_alloc_new w o⟩,λ b hb'=>?_⟩;have :w.heap.size=b:=by simpa [oH] using hb'
 subst this;exact⟨ah _,bY⟩
theorem tQ{w:agb}{b t:Nat}{C:Array R}(h:w.heap[b]?=O (D C t (0,0))):(∀i,w.cell? ⟨b,i,U⟩=C[i]?)/\(∀i,w.frozen? ⟨b,i,U⟩=false)/\b<w.heap.size:=by
 refine⟨λ i=>?_,λ i=>?_,?_⟩
 · simp[World.cell?,h]
 · simp[World.frozen?,h]
 · rcases eC b w.heap.size with h'|h'
   · exact h'
   · rw[cI h'] at h;cases h
def Bk(w:agb)(b:Nat)(C:Array R)(t:TypeId):Prop:=w.heap[b]?=O (D C t (0,0))
section
variable{w w':agb}{b t:Nat}{C:Array R}
theorem Bk.lt(h:Bk w b C t):b<w.heap.size:=(tQ h).2.2
theorem Bk.cell(h:Bk w b C t):∀i,w.cell? ⟨b,i,U⟩=C[i]?:=(tQ h).1
theorem Bk.free(h:Bk w b C t):∀i,w.frozen? ⟨b,i,U⟩=false:=(tQ h).2.1
theorem Bk.below(h:Bk w b C t)(hb:aZ w w'):Bk w' b C t:=(hb.block b h.lt).trans h
theorem Bk.sj{B:Nat}(h:Bk w b C t)(hb:Below B w w')(hB:b<B):Bk w' b C t:=(hb.block b hB).trans h
theorem Bk.aS(h:Bk w b C t)(i:Nat)(u:R):Bk (w.setCell ⟨b,i,U⟩ u) b (C.setIfInBounds i u) t:=by unfold Bk at h⊢;simp[World.setCell,Array.getElem?_modify,h]
theorem Bk.far(h:Bk w b C t){p:Addr}(hp:b≠p.block)(u:R):Bk (w.setCell p u) b C t:=(Below.heap_setCell w p u b hp).trans h
theorem Bk.alloc(h:Bk w b C t)(o:Obj):Bk (w.alloc o) b C t:=(Below.heap_alloc w o b h.lt).trans h
theorem Bk.drew(h:Bk w b C t):Bk w.drew b C t:=h
theorem Bk.new(w:agb)(C:Array R)(t:TypeId):Bk (w.alloc (D C t)) w.heap.size C t:=heap_alloc_new w _
theorem Bk.ext(h:Bk w b C t)(u:agb):Bk (ext w u) b C t:=h.below (aT w u)
end
theorem forget{P:Program}{c:Code}{Q:lC}{a:Act}{W:agb}(F:agb->Prop)(hF:F W)(h:∀w,F w->c.wp P Q a w):c.wp P Q a W:=h W hF
theorem Bk.cl0{w:agb}{b:Nat}{C:Array R}{t:TypeId}(h:Bk w b C t):(∀i,w.cell? ⟨b,i,U⟩=C[i]?)/\b<w.heap.size:=⟨h.cell,h.lt⟩
theorem qu{α:Type}{n:Nat}:∀(css:List (List α)),(∀c∈css,c.length=n)->css.flatten.length=css.length*n
 |[],_=>bY
 |c::css,h=>by
  have e:=qu css (λ c hc=>h c (di _ hc));have ec:=h c (dA ..);have :(css.length+1)*n=css.length*n+n:=Nat.succ_mul css.length n;rw[fZ,ax,e,ec,bD];omega
theorem I6{α:Type}{n:Nat}{css:List (List α)}(h:∀c∈css,c.length=n){k:Nat}{u:α}(hu:css.flatten[k]?=O u):∃i j c,k=i*n+j/\css[i]?=O c/\c[j]?=O u:=by
 have hk:k<css.length*n:=by rw[<-qu css h];exact(ai.1 hu).1
 have hn:0<n:=by rcases gO n with h0|h0;(subst h0;simp at hk);exact h0
 have hi:k / n<css.length:=(Nat.div_lt_iff_lt_mul hn).2 hk;have hj:k % n<n:=Nat.mod_lt _ hn;have e:k=k / n*n+k % n:=by rw[jv];exact(Nat.div_add_mod k n).symm
 refine⟨k / n,k % n,css[k / n],e,af hi,?_⟩;rw[<-kO css (k / n) (k % n) _ h (af hi) hj,<-e,hu]
theorem cG.flat{α:Type}{T:Ty α}{w:agb}{B:Nat}{A:dB}{xs:List α}(h:cG T w B A xs):
 ∃css:List (List R),css.length=xs.length/\(∀i(h1:i<xs.length)(h2:i<css.length),T.rd w B css[i] xs[i])/\(∀c∈css,c.length=T.n)/\css.flatten.length=xs.length*T.n/\
  (xs.length=0\/∃b off,A=O ⟨b,off,U⟩/\b<B/\∀k u,css.flatten[k]?=O u->w.cell? ⟨b,off+k,U⟩=O u):=by
 have h':∀i:Fin xs.length,∃cs,T.rd w B cs xs[i]/\∃b off,A=O ⟨b,off,U⟩/\b<B/\∀j u,cs[j]?=O u->w.cell? ⟨b,off+i*T.n+j,U⟩=O u:=λ i=>by obtain⟨b,off,cs,h1,h2,h3,h4⟩:=h i i.2;exact⟨cs,h3,b,off,h1,h2,h4⟩
 let css:=List.ofFn λ i=>(h' i).choose
 have hlen:css.length=xs.length:=by simp[css]
 have adS:∀i(h1:i<xs.length)(h2:i<css.length),css[i]=(h' ⟨i,h1⟩).choose:=λ i h1 h2=>by simp[css]
 have I7:∀i(h1:i<xs.length)(h2:i<css.length),T.rd w B css[i] xs[i]:=λ i h1 h2=>by rw[adS i h1 h2];exact(h' ⟨i,h1⟩).choose_spec.1
 have hn:∀c∈css,c.length=T.n:=λ c hc=>by obtain⟨i,hi,rfl⟩:=bo.1 hc;exact T.len (I7 i ar hi)
 refine⟨css,hlen,I7,hn,by rw[qu css hn,hlen],?_⟩;rcases gO xs.length with h0|h0
 · exact .inl h0
 · right
   obtain⟨b,off,_,hA,hb,_,_⟩:=h 0 h0;refine⟨b,off,hA,hb,λ k u hu=>?_⟩;obtain⟨i,j,c,e,hc,hu'⟩:=I6 hn hu;obtain⟨hi,rfl⟩:=ai.1 hc;have hi':i<xs.length:=ar;rw[adS i hi' hi] at hu';obtain⟨_,b',off',hA',_,hcell⟩:=(h' ⟨i,hi'⟩).choose_spec;have :=hA.symm.trans hA';simp only[cQ,Addr.mk.injEq,and_true] at this;obtain⟨rfl,rfl⟩:=this;rw[e,<-fu];exact hcell j u hu'
section
variable{P:Program}
theorem kU{e:TypeId}{size bytes c:Nat}(h:(P.info? e).map (λ i=>(i.size,i.bytes,i.zero.map λ z=>z.cells.size))=O (size,bytes,O c)):∃i z,P.info? e=O i/\i.zero=O z/\i.size=size/\i.bytes=bytes/\z.cells.size=c:=by
 cases hi:P.info? e with
 |none=>rw[hi] at h;cases h
 |some i=>
  rw[hi] at h;simp only[ja,cQ,Prod.mk.injEq] at h;obtain⟨h1,h2,h3⟩:=h;cases hz:i.zero with
  |none=>rw[hz] at h3;cases h3
  |some z=>
   rw[hz] at h3;exact⟨i,z,rfl,hz,h1,h2,by simpa using h3⟩
theorem RH{α:Type}{T:Ty α}{w:agb}{B:Nat}{css:List (List R)}{xs:List α}(h1:∀cs x,T.rd w B cs x->∀u∈cs,u.oneCell'=true)(hl:css.length=xs.length)
 (hr:∀i(h1:i<xs.length)(h2:i<css.length),T.rd w B css[i] xs[i]):∀u∈css.flatten,u.oneCell'=true:=λ u hu=>by
 obtain⟨c,hc,huc⟩:=List.mem_flatten.1 hu;obtain⟨i,hi,rfl⟩:=bo.1 hc;exact h1 _ _ (hr i ar hi) u huc
def Cn(w:agb)(A:dB)(m:Nat)(news:List R):Prop:=m=0\/∃ad,A=O ad/\∀j u,news[j]?=O u->w.cell? (ad.add j)=O u
theorem uJ{α:Type}{w w':agb}{B:Nat}{A:dB}{xs:List α}{news:List R}
 (h:xs.length=0\/∃b off,A=O ⟨b,off,U⟩/\b<B/\∀k u,news[k]?=O u->w.cell? ⟨b,off+k,U⟩=O u)(hb:Below B w w'):Cn w' A xs.length news:=by
 rcases h with h|⟨b,off,hA,hlt,hc⟩
 · exact .inl h
 · refine .inr ⟨_,hA,λ j u hu=>?_⟩
   rw[Addr.add_lit];exact(hb.cell (p:=⟨b,off+j,U⟩) hlt).trans (hc j u hu)
theorem yO{w:agb}{base:Nat}{e:TypeId}{size:Nat}{A:dB}{n c:Nat}{xs:List R}(h:w.ownsRow base e size (G A n c) n xs)(hn:0<n):
 ∃g cur,A=O ⟨g,0,U⟩/\base<=g/\g<w.heap.size/\Bk w g cur e/\n<=c/\c<=maxLen/\cur.size=c*size/\cur.toList.take (n*size)=xs:=by
 rcases h.2 with⟨_,h0⟩|⟨g,cap,cur,hv,h1,h2,h3,h4,h5,h6⟩
 · omega
 · injection hv with e1 e2 e3
   subst e1;subst e3;refine⟨g,cur,rfl,h1,?_,h2,h3,h4,h5,h6⟩;rcases eC g w.heap.size with hlt|O4
   · exact hlt
   · rw[cI O4] at h2;cases h2
theorem Lp(w:agb)(base:Nat)(t ty e:TypeId)(i:TypeInfo)(z:R)(size bytes:Nat)(ht:P.underlying t=O (.slice e))(hi:P.info? e=O i)(hz:i.zero=O z)
 (hsize:i.size=size)(hby:i.bytes=bytes)(hzs:z.cells.size=size)(hsz:0<size)
 {v:R}{n:Nat}{xs:List R}(hown:w.ownsRow base e size v n xs)
 (A:dB)(m c:Nat)(news:List R)(hl:news.length=m*size)(hsrc:Cn w A m news)(h1:∀u∈news,u.oneCell'=true)
 (h63:n+m<=maxLen)(hbytes:(n+m)*bytes<=140737488355328)(hbase:base<=w.heap.size):
 ∃v' w',(Builtin.append_ #[t,t] ty #[v,G A m c]).run P w=.ok v' w'/\w'.ownsRow base e size v' (n+m) (xs++news)/\w.grownBy w' v.ownBlock/\(v'.ownBlock=v.ownBlock\/v'.ownBlock=O w.heap.size):=by
 have main:∀ad,A=O ad->(∀j u,news[j]?=O u->w.cell? (ad.add j)=O u)->∃v' w',(Builtin.append_ #[t,t] ty #[v,G A m c]).run P w=.ok v' w'/\w'.ownsRow base e size v' (n+m) (xs++news)/\w.grownBy w' v.ownBlock/\(v'.ownBlock=v.ownBlock\/v'.ownBlock=O w.heap.size):=by rintro ad rfl hc;obtain⟨v',w',a1,a2,a3,_,a5⟩:=run_append_own_at w base t ty e i z size bytes ht hi hz hsize hby hzs hsz v n xs hown ad m c news hl hc h1 h63 hbytes hbase;exact⟨v',w',a1,a2,a3,a5⟩
 rcases hsrc with rfl|⟨ad,hA,hc⟩
 · have hn:news=[]:=fp (by simpa using hl)
   subst hn;cases A with
   |some ad=>exact main ad rfl (λ j u hu=>by simp at hu)
   |none=>
    refine⟨v,w,?_,by simpa using hown,⟨rfl,rfl,rfl,ah _,λ _ _ _=>rfl⟩,.inl rfl⟩;rcases hown.2 with⟨rfl,rfl⟩|⟨g,cap,cur,rfl,_,_,hle,_⟩
    · exact run_append_nothing w t t ty e i ht hi U 0 0 (ah _) _ (Src.ofNil w ht c)
    · exact run_append_nothing w t t ty e i ht hi (O ⟨g,0,U⟩) n cap hle _ (Src.ofNil w ht c)
 · exact main ad hA hc
theorem O5{w w':agb}{base:Nat}{e:TypeId}{size:Nat}{v:R}{n:Nat}{xs:List R}(hown:w.ownsRow base e size v n xs)(hg:w.grownBy w' v.ownBlock)(hb:base<=w.heap.size):Below base w w':=by
 refine⟨hg.os,hg.tape,hg.output,hg.size,λ k hk=>hg.block k ar ?_⟩;rcases hown.2 with⟨rfl,_⟩|⟨g,cap,cur,rfl,hbg,_⟩
 · simp[Value.ownBlock]
 · simp only[Value.ownBlock,ne_eq,cQ]
   omega
theorem RI{w w':agb}{base B:Nat}{e:TypeId}{size:Nat}{v:R}{n:Nat}{xs:List R}(hown:w.ownsRow base e size v n xs)(hb:Below B w w')(hB:∀g,v.ownBlock=O g->g<B):w'.ownsRow base e size v n xs:=by refine⟨hown.1,hown.2.imp id ?_⟩;rintro⟨g,cap,cur,rfl,h1,h2,h3⟩;exact⟨g,cap,cur,rfl,h1,(hb.block g (hB g rfl)).trans h2,h3⟩
theorem GF(w:agb)(o:Obj)(C:Array R)(t:TypeId):Bk ((w.alloc o).alloc (D C t)) (w.heap.size+1) C t:=by have h:=Bk.new (w.alloc o) C t;have e:(w.alloc o).heap.size=w.heap.size+1:=bY;rw[e] at h;exact h
theorem gL{w:agb}{b:Nat}{C:Array R}{t:TypeId}(h:Bk w b C t)(m:Nat):Cn w (O ⟨b,0,U⟩) m C.toList:=
 .inr ⟨_,rfl,λ j u hu=>by rw[Addr.add_lit,h.cell];simpa using hu⟩
theorem I8{w w':agb}{row:Option Nat}(hg:w.grownBy w' row){b:Nat}{C:Array R}{t:TypeId}(h:Bk w b C t)(hne:O b≠row):Bk w' b C t:=(hg.block b h.lt hne).trans h
theorem O6(w:agb)(base:Nat)(e:TypeId)(size:Nat)(h:base<=w.heap.size):(w.alloc (D #[] e)).ownsRow base e size (G (O ⟨w.heap.size,0,U⟩) 0 0) 0 []:=
 ⟨bY,.inr ⟨w.heap.size,0,#[],rfl,h,heap_alloc_new w _,ah _,by simp[maxLen],bY,bY⟩⟩
theorem yP{α:Type}{T:Ty α}{w:agb}{base B:Nat}{e:TypeId}{g n cap:Nat}{css:List (List R)}{xs:List α}(hown:w.ownsRow base e T.n (G (O ⟨g,0,U⟩) n cap) n css.flatten)(hg:g<B)
 (hl:css.length=xs.length)(hr:∀i(h:i<xs.length),T.rd w B (css[i]'ar) xs[i]):cG T w B (O ⟨g,0,U⟩) xs:=
 cG.of_flat css hg hl hr λ k u hu=>by have :=hown.cells (g:=g) rfl k u hu;rwa [Addr.add_lit] at this
end
structure Only(S:Nat->Prop)(w w':agb):Prop where
 os:w'.os=w.os
 tape:w'.tape=w.tape
 output:w'.output=w.output
 size:w.heap.size<=w'.heap.size
 block:∀k,k<w.heap.size->¬S k->w'.heap[k]?=w.heap[k]?
section
variable{S T:Nat->Prop}{a b c w w':agb}
theorem Only.refl(S:Nat->Prop)(w:agb):Only S w w:=⟨rfl,rfl,rfl,ah _,λ _ _ _=>rfl⟩
theorem Only.trans(h:Only S a b)(k:Only S b c):Only S a c:=
 ⟨k.os.trans h.os,k.tape.trans h.tape,k.output.trans h.output,bm h.size k.size,λ i hi hn=>(k.block i (dI hi h.size) hn).trans (h.block i hi hn)⟩
theorem Only.trans'(h:Only S a b)(k:Only T b c)(hT:∀g,T g->S g\/a.heap.size<=g):Only S a c:=
 ⟨k.os.trans h.os,k.tape.trans h.tape,k.output.trans h.output,bm h.size k.size,λ i hi hn=>(k.block i (dI hi h.size) (λ ht=>by
  rcases hT i ht with h1|h1
  · exact hn h1
  · omega)).trans (h.block i hi hn)⟩
theorem Only.mono(h:Only S w w')(hST:∀g,S g->T g):Only T w w':=⟨h.os,h.tape,h.output,h.size,λ k hk hn=>h.block k hk (λ hs=>hn (hST k hs))⟩
theorem Only.alloc(h:Only S a w)(o:Obj):Only S a (w.alloc o):=h.trans ⟨rfl,rfl,rfl,bY,λ k hk _=>Below.heap_alloc _ _ _ hk⟩
theorem Only.drew(h:Only S a w):Only S a w.drew:=⟨h.os,h.tape,h.output,h.size,h.block⟩
theorem Only.drewN(h:Only S a w)(n:Nat):Only S a (w.drewN n):=⟨h.os,h.tape,h.output,h.size,h.block⟩
theorem Only.aS(h:Only S a w){p:Addr}(hp:S p.block\/a.heap.size<=p.block)(v:R):Only S a (w.setCell p v):=
 ⟨h.os,h.tape,h.output,by simpa [World.setCell] using h.size,λ k hk hn=>by rw[Below.heap_setCell _ _ _ _ (λ e=>by rcases hp with h1|h1;exact hn (e▸h1);omega)];exact h.block k hk hn⟩
theorem Only.below(h:Only S a w)(hb:Below a.heap.size w w'):Only S a w':=
 ⟨hb.os.trans h.os,hb.tape.trans h.tape,hb.output.trans h.output,bm h.size hb.size,λ k hk hn=>(hb.block k hk).trans (h.block k hk hn)⟩
theorem Only.grown(h:Only S a w){row:Option Nat}(hg:w.grownBy w' row)(hr:∀g,row=O g->S g\/a.heap.size<=g):Only S a w':=
 ⟨hg.os.trans h.os,hg.tape.trans h.tape,hg.output.trans h.output,bm h.size hg.size,λ k hk hn=>(hg.block k (dI hk h.size) (λ e=>by
  rcases hr k e.symm with h1|h1
  · exact hn h1
  · omega)).trans (h.block k hk hn)⟩
theorem aw(hb:aZ w w'):Only S w w':=⟨hb.os,hb.tape,hb.output,hb.size,λ k hk _=>hb.block k hk⟩
theorem Only.aK{B:Nat}(h:Only S w w')(hS:∀g,S g->B<=g)(hB:B<=w.heap.size):Below B w w':=
 ⟨h.os,h.tape,h.output,h.size,λ k hk=>h.block k ar (λ hs=>by have :=hS k hs;omega)⟩
theorem Only.jN(h:Only S a w)(u:agb):Only S a (ext w u):=h.trans (aw (aT w u))
theorem ay(h:aZ a w)(o:Obj):aZ a (w.alloc o):=h.alloc h.size o
theorem Below.jN(h:aZ a w)(u:agb):aZ a (ext w u):=O0 h h.size u
theorem aq(h:aZ a w)(k:aZ w w'):aZ a w':=h.trans (k.mono h.size)
theorem Bk.only{g t:Nat}{C:Array R}(hk:Bk w g C t)(h:Only S w w')(hn:¬S g):Bk w' g C t:=(h.block g hk.lt hn).trans hk
theorem ee{base:Nat}{e:TypeId}{size:Nat}{v:R}{n:Nat}{xs:List R}(hown:w.ownsRow base e size v n xs)(h:Only S w w')(hn:∀g,v.ownBlock=O g->¬S g):w'.ownsRow base e size v n xs:=by
 refine⟨hown.1,hown.2.imp id ?_⟩;rintro⟨g,cap,cur,rfl,h1,h2,h3⟩;refine⟨g,cap,cur,rfl,h1,(h.block g ?_ (hn g rfl)).trans h2,h3⟩;rcases eC g w.heap.size with hlt|O4
 · exact hlt
 · rw[cI O4] at h2;cases h2
theorem jd{base:Nat}{e:TypeId}{size:Nat}{v:R}{n:Nat}{xs:List R}(h:w.ownsRow base e size v n xs){g:Nat}(hg:v.ownBlock=O g):base<=g/\g<w.heap.size:=by
 rcases h.2 with⟨rfl,_⟩|⟨g',cap,cur,rfl,h1,h2,_⟩
 · simp[Value.ownBlock] at hg
 · simp only[Value.ownBlock,cQ] at hg
   subst hg;refine⟨h1,?_⟩;rcases eC g' w.heap.size with hlt|O4
   · exact hlt
   · rw[cI O4] at h2;cases h2
def Flat{α:Type}(T:Ty α):Prop:=∀{w w':agb}{B B':Nat}{cs:List R}{x:α},T.rd w B cs x->T.rd w' B' cs x
theorem iP:Flat dr:=λ h=>h
theorem rA{α β:Type}{S:Ty α}{T:Ty β}(hS:Flat S)(hT:Flat T):Flat (fy S T):=λ⟨c1,c2,e,h1,h2⟩=>⟨c1,c2,e,hS h1,hT h2⟩
theorem cG.only{α:Type}{T:Ty α}{B:Nat}{A:dB}{xs:List α}(h:cG T w B A xs)(hT:Flat T)(ho:Only S w w')(hB:B<=w.heap.size)(hn:∀g off,A=O ⟨g,off,.none⟩->¬S g):cG T w' B A xs:=λ i hi=>by obtain⟨b,off,cs,hA,hb,hr,hc⟩:=h i hi;refine⟨b,off,cs,hA,hb,hT hr,λ j u hu=>?_⟩;rw[World.cell?_of_block (a:=⟨b,off+i*T.n+j,.none⟩) (ho.block b ar (hn b off hA))];exact hc j u hu
theorem uK{w:agb}{base:Nat}{e:TypeId}{size:Nat}:w.ownsRow base e size (.slice .none 0 0) 0 []:=⟨bY,.inl ⟨rfl,rfl⟩⟩
end
section
variable{P:Program}
theorem Lq{o:Oper}{a:Act}{w:agb}{K:xD}{Q:lC}(s x:Operand)(t:TypeId)
 (ho:o.op=.call {callee:=.builtin .append,args:=#[s,x],argTypes:=#[t,t]})
 (base:Nat)(e:TypeId)(i:TypeInfo)(z:R)(size bytes:Nat)(ht:P.underlying t=O (.slice e))(hi:P.info? e=O i)(hz:i.zero=O z)
 (hsize:i.size=size)(hby:i.bytes=bytes)(hzs:z.cells.size=size)(hsz:0<size)
 {v:R}(n:Nat)(xs:List R)(hs:a.eval s=v)(hown:w.ownsRow base e size v n xs)
 (A:dB)(m c:Nat)(news:List R)(hx:a.eval x=G A m c)(hl:news.length=m*size)(hsrc:Cn w A m news)(h1:∀u∈news,u.oneCell'=true)
 (h63:n+m<=maxLen)(hbytes:(n+m)*bytes<=140737488355328)(hbase:base<=w.heap.size)
 (N:Nat)(ys:List R)(hN:N=n+m)(hy:ys=xs++news)(h:∀A' c' w',w'.ownsRow base e size (G A' N c') N ys->Below base w w'->w.grownBy w' v.ownBlock->(A'.map (·.block)=v.ownBlock\/A'.map (·.block)=O w.heap.size)->K (a.put o.dst (G A' N c')) w'):o.wp P a w K Q:=by
 subst hN;subst hy;obtain⟨v',w',hr,h2,h3,h4⟩:=Lp (P:=P) w base t o.type e i z size bytes ht hi hz hsize hby hzs hsz hown A m c news hl hsrc h1 h63 hbytes hbase
 obtain⟨A',c',rfl⟩:∃A' c',v'=G A' (n+m) c':=by
  rcases h2.2 with⟨rfl,h0⟩|⟨g,cap,cur,rfl,_⟩
  · exact⟨U,0,by rw[h0]⟩
  · exact⟨_,_,rfl⟩
 unfold Oper.wp execOp;simp only[ho,resolve,invoke,builtin,Sem.run_bind,Sem.run_pure,Result.andThen_ok,List.map_toArray,aH,aU,hs,hx,hr];exact h A' c' w' h2 (O5 hown h3 hbase) h3 (by cases A'<;>exact h4)
theorem iG{ops:Array Oper}{rest:List Oper}{o:Oper}{a:Act}{w:agb}{Q:lC}(hgd:o.guard=U)(s x:Operand)(t:TypeId)
 (ho:o.op=.call {callee:=.builtin .append,args:=#[s,x],argTypes:=#[t,t]})
 (base:Nat)(e:TypeId)(i:TypeInfo)(z:R)(size bytes:Nat)(ht:P.underlying t=O (.slice e))(hi:P.info? e=O i)(hz:i.zero=O z)
 (hsize:i.size=size)(hby:i.bytes=bytes)(hzs:z.cells.size=size)(hsz:0<size)
 {v:R}(n:Nat)(xs:List R)(hs:a.eval s=v)(hown:w.ownsRow base e size v n xs)
 (A:dB)(m c:Nat)(news:List R)(hx:a.eval x=G A m c)(hl:news.length=m*size)(hsrc:Cn w A m news)(h1:∀u∈news,u.oneCell'=true)
 (h63:n+m<=maxLen)(hbytes:(n+m)*bytes<=140737488355328)(hbase:base<=w.heap.size)
 (N:Nat)(ys:List R)(hN:N=n+m)(hy:ys=xs++news)(h:∀A' c' w',w'.ownsRow base e size (G A' N c') N ys->Below base w w'->w.grownBy w' v.ownBlock->(A'.map (·.block)=v.ownBlock\/A'.map (·.block)=O w.heap.size)->wpList P ops Q rest (a.put o.dst (G A' N c')) w'):wpList P ops Q (o::rest) a w:=
 wpList_plain hgd λ _ hK=>Lq s x t ho base e i z size bytes ht hi hz hsize hby hzs hsz n xs hs hown A m c news hx hl hsrc h1 h63 hbytes hbase N ys hN hy λ A' c' w' h2 h3 h4 h5=>hK _ _ (h A' c' w' h2 h3 h4 h5)
end
def fits(n:Int):Prop:= -9223372036854775808<=n/\n<=9223372036854775807
theorem fM{w:agb}{base:Nat}{e:TypeId}{size:Nat}{v:R}{n:Nat}{xs:List R}(h:w.ownsRow base e size v n xs):∃A c,v=G A n c/\n<=c/\c<=maxLen:=by
 rcases h.2 with⟨rfl,rfl⟩|⟨g,cap,cur,rfl,_,_,h3,h4,_⟩
 · exact⟨U,0,rfl,ah _,by simp[maxLen]⟩
 · exact⟨_,_,rfl,h3,h4⟩
theorem aj(w:agb)(o:Obj):aZ w (w.alloc o):=(aA _ w).alloc (ah _) o
theorem au(X:agb)(g:Nat)(C:Array R)(t:TypeId)(h:X.heap.size=g):Bk (X.alloc (D C t)) g C t:=by subst h;exact Bk.new _ _ _
theorem I9{K:xD}{Q:lC}{a:Act}{W:agb}(F:agb->Prop)(hF:F W)(h:∀w,F w->Exit.then K Q .normal a w):Exit.then K Q .normal a W:=h W hF
theorem dE{B:Nat}{w w':agb}(h:Below B w w':=by(repeat(first|with_reducible exact aA _ _|with_reducible assumption|with_reducible refine ay ?_ _|with_reducible refine Below.jN ?_ _|with_reducible refine Below.drew ?_|with_reducible refine below_drewN ?_ _|(with_reducible refine Below.setCell (hp:=?hp) ?_ _;case hp=>(first|(simp;done)|(simp;omega)))))):Below B w w':=h
theorem GG{S:Nat->Prop}{w w':agb}(h:Only S w w':=by(repeat(first|with_reducible exact Only.refl _ _|with_reducible assumption|with_reducible refine Only.alloc ?_ _|with_reducible refine Only.jN ?_ _|with_reducible refine Only.drew ?_|with_reducible refine Only.drewN ?_ _|(with_reducible refine Only.aS (hp:=?hp) ?_ _;case hp=>(first|(left;rfl)|(left;left;rfl)|(right;simp;done)|(right;simp;omega)|(left;simp;done)|(left;simp[*];done)))))):Only S w w':=h
def oI(zs:List Int):List R:=zs.map (Value.int .i64)
def fL(zs:List (Int×Int)):List R:=(zs.map λ r=>[I J r.1,I J r.2]).flatten
theorem Co{zs:List Int}{k:Nat}{x:Int}(h:zs[k]?=O x):(oI zs)[k]?=O (I J x):=by simp[oI,h]
theorem pc(zs:List Int):(oI zs).length=zs.length:=by simp[oI]
theorem iy:∀(zs:List (Int×Int)),(fL zs).length=zs.length*2
 |[]=>rfl
 |z::zs=>by
  have :=iy zs;simp only[fL,aH,fZ,ax,bD,dG] at this⊢;omega
theorem pd{zs:List (Int×Int)}{k:Nat}{r:Int×Int}(h:zs[k]?=O r):(fL zs)[k*2]?=O (I J r.1)/\(fL zs)[k*2+1]?=O (I J r.2):=by
 have hc:∀c∈zs.map (λ r=>[I J r.1,I J r.2]),c.length=2:=by intro c hc;obtain⟨x,_,rfl⟩:=eQ.1 hc;rfl
 have hk:(zs.map (λ r=>[I J r.1,I J r.2]))[k]?=O [I J r.1,I J r.2]:=by simp[h]
 exact⟨kO _ k 0 _ hc hk ar,kO _ k 1 _ hc hk ar⟩
section
variable{P:Program}
theorem GH{e:TypeId}{d:TypeDesc}(he:P.underlying e=O d)(hd:(match d with | .struct _| .array _ _=>false|_=>true)=true)(cs:Array R)(off:Nat)(v:R)(w:agb)(hv:cs[off]?=O v):(part e cs off).run P w=.ok v w:=by
 have hagg:(isAgg e).run P w=.ok false w:=by unfold isAgg;rw[Sem.run_bind,run_underlying he w];cases d<;>simp_all
 simp[part,Sem.run_bind,hagg,hv]
theorem Cp{e:TypeId}{s:Nat}(h:(P.info? e).map (·.size)=O s)(w:agb):(sizeOf e).run P w=.ok s w:=by
 cases hq:P.info? e with
 |none=>simp[hq] at h
 |some i=>
  have hs:i.size=s:=by simpa [hq] using h
  simp[sizeOf,typeInfo,hq,Sem.run_bind,hs]
theorem qT{t e:TypeId}{n:Nat}{d:TypeDesc}(ht:P.underlying t=O (.array n e))(he:P.underlying e=O d)(hd:(match d with | .struct _| .array _ _=>false|_=>true)=true)(hs:(P.info? e).map (·.size)=O 1)
 (cs:Array R)(k:Nat)(hk:k<n)(v:R)(hv:cs[k]?=O v)(w:agb):(Instr.index t (.agg cs) (I J k)).run P w=.ok v w:=by
 have h0:(0:Int)<=k/\(k:Int)<n:=ar;unfold Instr.index;simp only[Sem.run_bind,asIntOf,Sem.run_pure,Result.andThen_ok,run_underlying ht w];simp only[h0,and_self,if_true,Sem.run_bind,Cp hs w,Result.andThen_ok,Int.toNat_natCast,Nat.mul_one];exact GH he hd cs k v w hv
theorem ER{t e:TypeId}{n m:Nat}{d:TypeDesc}(ht:P.underlying t=O (.array n e))(he:P.underlying e=O d)(hd:(match d with | .struct _| .array _ _=>true|_=>false)=true)(hs:(P.info? e).map (·.size)=O m)
 (cs:Array R)(k:Nat)(hk:k<n)(w:agb):(Instr.index t (.agg cs) (I J k)).run P w=.ok (.agg (cs.extract (k*m) (k*m+m))) w:=by
 have h0:(0:Int)<=k/\(k:Int)<n:=ar
 have hagg:(isAgg e).run P w=.ok true w:=by unfold isAgg;rw[Sem.run_bind,run_underlying he w];cases d<;>simp_all
 unfold Instr.index;simp only[Sem.run_bind,asIntOf,Sem.run_pure,Result.andThen_ok,run_underlying ht w];simp only[h0,and_self,if_true,Sem.run_bind,Cp hs w,Result.andThen_ok,Int.toNat_natCast,part,hagg,Sem.run_pure]
theorem jl{w:agb}{b off:Nat}{ty:TypeId}{cs:Array R}{d:TypeDesc}(hc:∀j u,cs[j]?=O u->w.cell? ⟨b,off+j,U⟩=O u)
 (hu:P.underlying ty=O d)(hd:(match d with | .struct _| .array _ _=>true|_=>false)=true)(hi:(P.info? ty).map (·.size)=O cs.size):(loadVar ty ⟨b,off,U⟩).run P w=.ok (.agg cs) w:=by
 have hl:(loadCells ⟨b,off,U⟩ cs.toList.length).run P w=.ok cs.toList.toArray w:=
  run_loadCells_list (P:=P) w ⟨b,off,U⟩ cs.toList (λ j v hv=>by rw[Addr.add_lit];exact hc j v (by simpa using hv))
 have hagg:(isAgg ty).run P w=.ok true w:=by unfold isAgg;rw[Sem.run_bind,run_underlying hu w];cases d<;>simp_all
 simp only[Array.length_toList,Array.toArray_toList] at hl;simp[loadVar,Sem.run_bind,hagg,Cp hi w,hl]
theorem Cq{o:Oper}{a:Act}{w:agb}{K:xD}{Q:lC}(ty:TypeId)(x:Operand)(ho:o.op=.load ty x)
 (b off:Nat)(hx:a.eval x=M (O ⟨b,off,U⟩))(cs:Array R)(d:TypeDesc)(hc:∀j u,cs[j]?=O u->w.cell? ⟨b,off+j,U⟩=O u)
 (hu:P.underlying ty=O d)(hd:(match d with | .struct _| .array _ _=>true|_=>false)=true)(hi:(P.info? ty).map (·.size)=O cs.size)
 (h:K (a.put o.dst (.agg cs)) w):o.wp P a w K Q:=by
 unfold Oper.wp execOp;simp only[ho,hx,Instr.loadAt,Instr.sureAddr,Sem.run_bind,Sem.run_pure,Result.andThen_ok,jl hc hu hd hi];exact h
theorem dM{ops:Array Oper}{rest:List Oper}{o:Oper}{a:Act}{w:agb}{Q:lC}(hgd:o.guard=U)(ty:TypeId)(x:Operand)(ho:o.op=.load ty x)
 (b off:Nat)(hx:a.eval x=M (O ⟨b,off,U⟩))(cs:Array R)(d:TypeDesc)(hc:∀j u,cs[j]?=O u->w.cell? ⟨b,off+j,U⟩=O u)
 (hu:P.underlying ty=O d)(hd:(match d with | .struct _| .array _ _=>true|_=>false)=true)(hi:(P.info? ty).map (·.size)=O cs.size)
 (h:wpList P ops Q rest (a.put o.dst (.agg cs)) w):wpList P ops Q (o::rest) a w:=
 wpList_plain hgd λ _ hK=>Cq ty x ho b off hx cs d hc hu hd hi (hK _ _ h)
theorem eK{ops:Array Oper}{rest:List Oper}{o:Oper}{a:Act}{w:agb}{Q:lC}(hgd:o.guard=U)(ty:TypeId)(x y:Operand)(ho:o.op=.store ty x y){t:TypeId}{old:Array R}(g:Nat)
 (cells:Array R)(hx:a.eval x=M (O ⟨g,0,U⟩))(hy:a.eval y=.agg cells)(hg:Bk w g old t)
 (hi:(P.info? ty).map (·.size)=O cells.size)(hold:old.size=cells.size)(h1:cells.all (·.oneCell')=true)
 (h:∀w',Bk w' g cells t->Only (λ b=>b=g) w w'->wpList P ops Q rest (a.put o.dst undef) w'):wpList P ops Q (o::rest) a w:=by
 refine wpList_store_row hgd ty x y ho g cells hx hy t old hg hi hold h1 ?_;have hgs:=hg.lt;refine h _ ?_ ?_
 · have II:w.heap[g]?=O (D old t (0,0)):=hg
   show(w.setRow g cells).heap[g]?=_;unfold World.setRow;rw[Array.getElem?_modify,if_pos rfl,II];rfl
 · refine⟨rfl,rfl,rfl,by simp[World.setRow],λ k hk hn=>?_⟩
   show(w.heap.modify g _)[k]?=_;rw[Array.getElem?_modify,if_neg (λ e=>hn e.symm)]
theorem fD{ops:Array Oper}{rest:List Oper}{o:Oper}{a:Act}{w:agb}{Q:lC}(hgd:o.guard=U)(ty:TypeId)(x y:Operand)(ho:o.op=.store ty x y){t:TypeId}{old:Array R}
 (cells:Array R)(hx:a.eval x=M (O ⟨w.heap.size,0,U⟩))(hy:a.eval y=.agg cells)
 (hi:(P.info? ty).map (·.size)=O cells.size)(hold:old.size=cells.size)(h1:cells.all (·.oneCell')=true)
 (h:wpList P ops Q rest (a.put o.dst undef) (w.alloc (D cells t))):wpList P ops Q (o::rest) a (w.alloc (D old t)):=by
 refine wpList_store_row hgd ty x y ho w.heap.size cells hx hy t old (heap_alloc_new w _) hi hold h1 ?_;rw[World.setRow_alloc_new];exact h
end
theorem rB(zs:List Int):(oI zs).toArray.all (·.oneCell')=true:=by rw[dJ];intro v hv;simp only[List.mem_toArray,oI,eQ] at hv;obtain⟨x,_,rfl⟩:=hv;rfl
theorem ko(zs:List (Int×Int)):(fL zs).toArray.all (·.oneCell')=true:=by rw[dJ];intro v hv;simp only[List.mem_toArray,fL,List.mem_flatten,eQ] at hv;obtain⟨l,⟨x,_,rfl⟩,hv⟩:=hv;simp only[aR,bH,or_false] at hv;rcases hv with rfl|rfl<;>rfl
def CS:Op->Bool
 | .move _| .assign _| .pick .. | .build .. | .load .. | .binOp .. | .unOp .. | .slice .. | .fieldAddr .. | .field .. | .indexAddr .. | .index .. | .extract .. =>true
 | .nilCheck .. =>true
 | .lookup .. =>true
 | .call c=>match c.callee with
   | .builtin .len| .builtin .max| .builtin .min=>true
   |_=>false
 |_=>false
theorem R8{P:Program}{s:Sem R}{w w':agb}{nx:Next}(h:(do let x <-s;pure (Next.value x):Sem Next).run P w=.ok nx w'):∃u,nx=.value u:=by
 rw[Sem.run_bind] at h;cases hs:s.run P w with
 |ok v w1=>
  rw[hs] at h;simp only[Result.andThen_ok,Sem.run_pure,Result.ok.injEq] at h;exact⟨v,h.1.symm⟩
 |halt x w1=>
  rw[hs] at h;simp[Result.andThen] at h
theorem Pg{P:Program}{ρ:Operand->R}{x:Operand}{w w':agb}{nx:Next}{o:Oper}(ho:o.op=.nilCheck x)(h:(execOp ρ o).run P w=.ok nx w'):∃u,nx=.value u:=by
 unfold execOp at h;rw[ho] at h;simp only at h
 have hp:∀w,(runtimePanic .nilDeref:Sem Next).run P w=.ok nx w'->False:=by
  intro w hh;unfold runtimePanic at hh;rw[Sem.run_bind] at hh;cases hq:program.run P w with
  |halt x w1=>rw[hq] at hh;simp[Result.andThen] at hh
  |ok v w1=>
   rw[hq] at hh;simp only[Result.andThen_ok] at hh;unfold goPanic at hh;simp[Sem.run] at hh
 have hpv:∀{v:R}{w:agb},(pure (Next.value v):Sem Next).run P w=.ok nx w'->∃u,nx=.value u:=by intro v w hh;rw[Sem.run_pure] at hh;simp only[Result.ok.injEq] at hh;exact⟨_,hh.1.symm⟩
 split at h
 · exact(hp _ h).elim
 · exact(hp _ h).elim
 · exact(hp _ h).elim
 · split at h
   · exact(hp _ h).elim
   · rw[Sem.run_bind] at h
     cases hq:program.run P w with
     |halt x w1=>rw[hq] at h;simp[Result.andThen] at h
     |ok v w1=>
      rw[hq] at h;simp only[Result.andThen_ok] at h;rw[Sem.run_bind] at h;generalize Sem.run P (nilAhead _ _ _ _) w1=r at h;cases r with
      |halt x w2=>simp[Result.andThen] at h
      |ok v2 w2=>
       simp only[Result.andThen_ok] at h;split at h
       · rw[Sem.run_bind] at h
         generalize Sem.run P (unsupported _) w2=r2 at h;cases r2 with
         |halt x w2=>simp[Result.andThen] at h
         |ok v2 w2=>
          simp only[Result.andThen_ok] at h;exact hpv h
       · exact hpv h
   · exact hpv h
 · exact hpv h
theorem Jo{P:Program}{ρ:Operand->R}{o:Oper}(hg:CS o.op=true){w w':agb}{nx:Next}(h:(execOp ρ o).run P w=.ok nx w'):∃u,nx=.value u:=by
 have h9:=h;unfold execOp at h;cases ho:o.op<;>rw[ho] at hg h<;>simp only[CS,Bool.false_eq_true] at hg<;>simp only at h
 case nilCheck x=>exact Pg ho h9
 case move=>simp at h;exact⟨_,h.1.symm⟩
 case assign=>simp at h;exact⟨_,h.1.symm⟩
 case pick c x y=>
  rw[Sem.run_bind] at h;cases hs:(asBool (ρ c)).run P w with
  |ok v w1=>
   rw[hs] at h;simp only[Result.andThen_ok,Sem.run_pure,Result.ok.injEq] at h;exact⟨_,h.1.symm⟩
  |halt x w1=>rw[hs] at h;simp[Result.andThen] at h
 case call c=>
  cases hc:c.callee with
  |value f=>rw[hc] at hg;simp at hg
  |invoke r n=>rw[hc] at hg;simp at hg
  |builtin b=>
   simp only[resolve,hc,Sem.run_bind,Sem.run_pure,Result.andThen_ok,invoke] at h;cases b<;>rw[hc] at hg<;>simp only[Bool.false_eq_true] at hg<;>(simp only[builtin] at h;exact R8 h)
 all_goals exact R8 h
section
variable{P:Program}{ops:Array Oper}{md:Region.Mode}{S:agb->Prop}
theorem ub{o:Oper}{v:R}{a:Act}(hg:CS o.op=true)(h:YieldsIn P ops S o v a):YieldsIf P ops S o v a:=by
 rcases h with⟨hw,h⟩|h
 · refine .inl ⟨hw,λ w hS=>?_⟩
   have h1:=h w hS;unfold Oper.quietAt at h1;cases hr:(execOp a.eval o).run P w with
   |halt x w'=>rw[hr] at h1;exact h1.elim
   |ok nx w'=>
    obtain⟨u,rfl⟩:=Jo hg hr;rw[hr] at h1;simp only[Oper.quietUpon] at h1;rw[h1.1,h1.2]
 · exact .inr h
def aao:Oper:={dst:=U,op:=.move (.const undef),type:=0,pos:= "",after:=#[],guard:=U}
def aW(l:List Oper)(i:Nat):Oper:=l.getD i aao
def iB(listed:Array Bool):List Nat->Array Bool
 |[]=>listed
 |i::q=>iB (listed.setIfInBounds i true) q
def GM(md:Region.Mode)(ops:Array Oper):List Nat->Array Bool->Bool
 |[],_=>true
 |i::q,listed=>decide (i<ops.size)&&CS (aW ops.toList i).op&&(Region.ready md ops listed).contains i&&Region.free md ops listed i&&GM md ops q (listed.setIfInBounds i true)
def NK(md:Region.Mode)(ops:Array Oper):List Nat->Array Bool->Bool
 |[],_=>true
 |i::r,listed=>decide (i<ops.size)&&decide (Region.ready md ops listed=[i])&&NK md ops r (listed.setIfInBounds i true)
def Ab(md:Region.Mode)(ops:Array Oper):List (List Nat×List Nat)->Array Bool->Bool
 |[],listed=>(Region.ready md ops listed).isEmpty
 |(q,r)::rest,listed=>GM md ops q listed&&NK md ops r (iB listed q)&&Ab md ops rest (iB (iB listed q) r)
def ez:List (List Nat×List Nat)->Nat
 |[]=>0
 |(q,r)::rest=>q.length+(r.length+ez rest)
def Nxt(S:agb->Prop)(K:xD)(a:Act)(w:agb):Prop:=S w/\K a w
def gq(Q:lC):lC
 | .normal,a,w=>Q .normal a w
 |_,_,_=>False
def ox(P:Program)(ops:Array Oper)(S:agb->Prop)(Q:lC)(K:xD):List Oper->xD
 |[],a,w=>K a w
 |o::r,a,w=>wpList P ops (Exit.then (Nxt S (ox P ops S Q K r)) (gq Q)) [o] a w
def pH(P:Program)(ops:Array Oper)(S:agb->Prop)(Q:lC):List (List Oper×List Oper)->xD
 |[],a,w=>Q .normal a w
 |(q,r)::rest,a,w=>wpQuiet P ops S (λ a'=>ox P ops S Q (pH P ops S Q rest) r a' w) q a
theorem GN{o:Oper}{a:Act}{w:agb}{K N:xD}{Q:lC}(h:o.wp P a w K (Exit.then N (gq Q))):o.wp P a w K (gq Q):=by
 unfold Oper.wp at *;generalize(execOp a.eval o).run P w=r at *;cases r with
 |halt x w'=>cases x<;>exact h
 |ok n w'=>cases n<;>exact h
theorem kV{o:Oper}{i:Nat}{a:Act}{w:agb}{N:xD}{Q:lC}(ho:ops[i]?=O o)(h:wpList P ops (Exit.then N (gq Q)) [o] a w):wpOp P ops (gq Q) i N a w:=by
 unfold wpList at h;unfold wpOp;simp only[ho];split
 · rename_i hw
   rw[if_pos hw] at h;rcases h with h|⟨_,a',w',h⟩
   · left
     exact Oper.wp_mono (λ a w h=>h) (GN h)
   · exact h.elim
 · rename_i hw
   rw[if_neg hw] at h;exact h
theorem iZ{i:Nat}(h:i<ops.size):ops[i]?=O (aW ops.toList i):=by unfold aW;rw[av];simp[h]
theorem CU(hs:Region.noSelect ops=true){Q:lC}{fuel:Nat}{w:agb}(hS:S w):∀(q:List Nat)(listed:Array Bool)(a:Act),GM md ops q listed=true->
 wpQuiet P ops S (λ a'=>wpAnyH P md ops (gq Q) S fuel (iB listed q) a' w) (q.map (aW ops.toList)) a->wpAnyH P md ops (gq Q) S (q.length+fuel) listed a w
 |[],listed,a,_,h=>by
  simp only[dG,bX];exact h
 |i::q,listed,a,hB,h=>by
  simp only[GM,aD,decide_eq_true_eq] at hB;obtain⟨⟨⟨⟨h1,h2⟩,h3⟩,h4⟩,h5⟩:=hB;have ho:=iZ (ops:=ops) h1
  have hq:qOp P ops S i (wpQuiet P ops S (λ a'=>wpAnyH P md ops (gq Q) S fuel (iB (listed.setIfInBounds i true) q) a' w) (q.map (aW ops.toList))) a:=by unfold qOp;simp only[ho];exact h
  obtain⟨v,hy,hK⟩:=yieldsIn_of_qOp ho hq;have e:(i::q).length+fuel=(q.length+fuel)+1:=by simp only[bD];omega
  rw[e];exact wpAnyH_take ho hs h4 h3 (λ _ _ _ h=>h) (ub h2 hy) hS (CU hs hS q _ _ h5 hK)
theorem Fz{Q:lC}{fuel:Nat}{K:xD}:∀(r:List Nat)(listed:Array Bool)(a:Act)(w:agb),S w->NK md ops r listed=true->
 (∀a' w',S w'->K a' w'->wpAnyH P md ops (gq Q) S fuel (iB listed r) a' w')->ox P ops S Q K (r.map (aW ops.toList)) a w->wpAnyH P md ops (gq Q) S (r.length+fuel) listed a w
 |[],listed,a,w,hS,_,hK,h=>by simpa [iB] using hK a w hS h
 |i::r,listed,a,w,hS,hB,hK,h=>by
  simp only[NK,aD,decide_eq_true_eq] at hB;obtain⟨⟨h1,h2⟩,h3⟩:=hB;have ho:=iZ (ops:=ops) h1;have e:(i::r).length+fuel=(r.length+fuel)+1:=by simp only[bD];omega
  rw[e];refine wpAnyH_all h2 bY λ j hj=>?_;obtain rfl:j=i:=by simpa using hj
  exact wpOp_mono (λ a' w' h'=>⟨h'.1,Fz r _ a' w' h'.1 h3 hK h'.2⟩) (kV ho h)
theorem CV(hs:Region.noSelect ops=true){Q:lC}:∀(fY:List (List Nat×List Nat))(listed:Array Bool)(a:Act)(w:agb),S w->Ab md ops fY listed=true->
 pH P ops S Q (fY.map λ p=>(p.1.map (aW ops.toList),p.2.map (aW ops.toList))) a w->wpAnyH P md ops (gq Q) S (ez fY) listed a w
 |[],listed,a,w,hS,hB,h=>⟨by simpa [Ab] using hB,h⟩
 |(q,r)::rest,listed,a,w,hS,hB,h=>by
  simp only[Ab,aD] at hB;obtain⟨⟨h1,h2⟩,h3⟩:=hB;unfold ez;refine CU hs hS q listed a h1 ?_;have h':wpQuiet P ops S (λ a'=>ox P ops S Q (pH P ops S Q (rest.map λ p=>(p.1.map (aW ops.toList),p.2.map (aW ops.toList)))) (r.map (aW ops.toList)) a' w) (q.map (aW ops.toList)) a:=h
  have mono:∀(l:List Oper)(a:Act)(Q1 Q2:Act->Prop),(∀a,Q1 a->Q2 a)->wpQuiet P ops S Q1 l a->wpQuiet P ops S Q2 l a:=by
   intro l;induction l with
   |nil=>intro a Q1 Q2 hq hh;exact hq _ hh
   |cons o l ih=>
    intro a Q1 Q2 hq hh;unfold wpQuiet at hh⊢;split
    · rename_i hw
      rw[if_pos hw] at hh;exact Oper.quiet_mono (λ a ha=>ih a Q1 Q2 hq ha) hh
    · rename_i hw
      rw[if_neg hw] at hh;exact ih _ Q1 Q2 hq hh
  exact mono _ _ _ _ (λ a' ha=>Fz r _ a' w hS h2 (λ a2 w2 FA hK=>CV hs rest _ a2 w2 FA h3 hK) ha) h'
end
theorem CW{P:Program}{id:Nat}{Q:lC}{a:Act}{w:agb}{l:List Oper}(S:agb->Prop)(fY:List (List Nat×List Nat))(hm:P.follows .mixedOrders=true)
 (hB:(Region.noSelect l.toArray&&decide (ez fY=l.length)&&Ab .any l.toArray fY (Array.replicate l.length false))=true)(hS:S w.drew)
 (h:pH P l.toArray S Q (fY.map λ p=>(p.1.map (aW l),p.2.map (aW l))) a w.drew):(Code.region id l.toArray true).wp P Q a w:=by
 simp only[aD,decide_eq_true_eq] at hB;obtain⟨⟨h1,h2⟩,h3⟩:=hB;refine Code.wp_mono (Q:=gq Q) (λ e a w h=>?_) ?_
 · cases e with
   |normal=>exact h
   |_=>exact h.elim
 · refine wp_region_held (S:=S) hm ?_
   have :=CV (P:=P) (md:=.any) (S:=S) (Q:=Q) h1 fY (Array.replicate l.length false) a w.drew hS h3 (by simpa using h);rw[h2] at this;simpa using this
section
variable{B:Nat}{X u w':agb}
end
section
variable{P:Program}{ops:Array Oper}{md:Region.Mode}{S:agb->Prop}{Q:lC}{s:Nat}
def wpAnyS(P:Program)(md:Region.Mode)(ops:Array Oper)(Q:lC)(S:agb->Prop)(s:Nat):Nat->Array Bool->xD
 |0,listed,a,w=>Region.ready md ops listed=[]/\Q .normal a w
 |fuel+1,listed,a,w=>
  (Region.ready md ops listed=[]->Q .normal a w)/\
  ∀i∈Region.ready md ops listed,wpOp P ops Q i (λ a' w'=>(i≠s->S w')/\wpAnyS P md ops Q S s fuel (listed.setIfInBounds i true) a' w') a w
theorem sG:∀(fuel:Nat)(listed:Array Bool)(a:Act)(w:agb),wpAnyS P md ops Q S s fuel listed a w->wpAny P md ops Q fuel listed a w
 |0,_,_,_,h=>h
 |fuel+1,_,_,_,h=>⟨h.1,λ i hi=>wpOp_mono (λ a' w' h'=>sG fuel _ a' w' h'.2) (h.2 i hi)⟩
theorem wpAnyS_first{i:Nat}{oi:Oper}{v:R}(hi:ops[i]?=O oi)(oM:∀(j:Nat)(o:Oper) cs b,ops[j]?=O o->o.op≠ .select cs b)
 (hQ:∀c a w,Q (.panic c) (a.put oi.dst v) w->Q (.panic c) a w)(hs:Region.sinkB md ops s=true)(hc:Region.chainB md ops s=true)(hn:s<ops.size)(RG:i<s):
 ∀(fuel:Nat)(listed:Array Bool)(a:Act)(w:agb),HeadInv md ops s listed->
  (∀j oj,ops[j]?=O oj->j≠i->listed.getD j true=false->(∀e∈oj.after,Region.binds md e=true->e.on≠i)->oi.apart ops oj=true)->
  i∈Region.ready md ops listed->YieldsIf P ops S oi v a->S w->
  wpAnyS P md ops Q S s fuel (listed.setIfInBounds i true) (a.put oi.dst v) w->wpAnyS P md ops Q S s (fuel+1) listed a w:=by
 intro fuel;induction fuel with
 |zero=>
  intro listed a w inv _ hr hy hS H;refine⟨λ h=>(by rw[h] at hr;cases hr),λ j hj=>?_⟩;by_cases AV:j=i
  · subst AV;exact hy.wpOp hi hS ⟨λ _=>hS,H⟩
  · have :=ready_mono hj AV
    rw[H.1] at this;cases this
 |succ fuel ih=>
  intro listed a w inv Ac hr hy hS H;refine⟨λ h=>(by rw[h] at hr;cases hr),λ j hj=>?_⟩;by_cases AV:j=i
  · subst AV;exact hy.wpOp hi hS ⟨λ _=>hS,H⟩
  · have Ld:=(mem_ready.1 hr).1
    have hjs:j<s:=by
     rcases eC j s with h|h
     · exact h
     · exact absurd hj (tail_waits hs hc hn inv _ i rfl RG Ld j h)
    have h1:=H.2 j (ready_mono hj AV);obtain⟨R9,oj,lJ,hall⟩:=mem_ready.1 hj
    have aaq:∀e∈oj.after,Region.binds md e=true->e.on≠i:=λ e he hb heq=>by have h1:=hall e he hb;rw[heq,getD_both Ld] at h1;cases h1
    have h2:=wpOp_putIf lJ (Ac j oj lJ AV R9 aaq) (λ cs b=>oM i oi cs b hi) (λ cs b=>oM j oj cs b lJ) hQ hy h1
    have LJ:∀k ok,ops[k]?=O ok->k≠i->(listed.setIfInBounds j true).getD k true=false->
     (∀e∈ok.after,Region.binds md e=true->e.on≠i)->oi.apart ops ok=true:=λ k ok hk Ny Ld hno=>by
     refine Ac k ok hk Ny ?_ hno;by_cases hjk:j=k
     · subst hjk;exact R9
     · rw[getD_set_ne true hjk] at Ld;exact Ld
    refine wpOp_mono (λ a' w' h3=>⟨h3.2.1,ih (listed.setIfInBounds j true) a' w' (inv.set hj hjs) LJ (ready_mono hr (Ne.symm AV)) h3.1 (h3.2.1 ar) ?_⟩) h2;rw[Array.setIfInBounds_comm _ _ AV];exact h3.2.2
def qV(md:Region.Mode)(ops:Array Oper)(s:Nat):List Nat->Array Bool->Bool
 |[],_=>true
 |i::q,listed=>decide (i<s)&&CS (aW ops.toList i).op&&(Region.ready md ops listed).contains i&&Region.free md ops listed i&&qV md ops s q (listed.setIfInBounds i true)
def vA(md:Region.Mode)(ops:Array Oper)(s:Nat):List Nat->Array Bool->Bool
 |[],_=>true
 |i::r,listed=>decide (i<s)&&decide (Region.ready md ops listed=[i])&&vA md ops s r (listed.setIfInBounds i true)
def xT(md:Region.Mode)(ops:Array Oper)(s:Nat):List (List Nat×List Nat)->Array Bool->Bool
 |[],listed=>decide (Region.ready md ops listed=[s])&&(Region.ready md ops (listed.setIfInBounds s true)).isEmpty
 |(q,r)::rest,listed=>qV md ops s q listed&&vA md ops s r (iB listed q)&&xT md ops s rest (iB (iB listed q) r)
def nP(P:Program)(ops:Array Oper)(S:agb->Prop)(Q:lC)(K:xD):List (List Oper×List Oper)->xD
 |[],a,w=>K a w
 |(q,r)::rest,a,w=>wpQuiet P ops S (λ a'=>ox P ops S Q (nP P ops S Q K rest) r a' w) q a
theorem pI:∀(q:List Nat)(listed:Array Bool),qV md ops s q listed=true->HeadInv md ops s listed->HeadInv md ops s (iB listed q)
 |[],listed,_,inv=>inv
 |i::q,listed,hB,inv=>by
  simp only[qV,aD,decide_eq_true_eq] at hB;obtain⟨⟨⟨⟨h1,h2⟩,h3⟩,h4⟩,h5⟩:=hB;exact pI q _ h5 (inv.set (by simpa using h3) h1)
theorem ud:∀(q:List Nat)(listed:Array Bool),vA md ops s q listed=true->HeadInv md ops s listed->HeadInv md ops s (iB listed q)
 |[],listed,_,inv=>inv
 |i::q,listed,hB,inv=>by
  simp only[vA,aD,decide_eq_true_eq] at hB;obtain⟨⟨h1,h2⟩,h3⟩:=hB;exact ud q _ h3 (inv.set (by rw[h2];simp) h1)
theorem ue(oM:Region.noSelect ops=true)(hs:Region.sinkB md ops s=true)(hc:Region.chainB md ops s=true)(hn:s<ops.size){fuel:Nat}{w:agb}(hS:S w):∀(q:List Nat)(listed:Array Bool)(a:Act),HeadInv md ops s listed->qV md ops s q listed=true->
 wpQuiet P ops S (λ a'=>wpAnyS P md ops (gq Q) S s fuel (iB listed q) a' w) (q.map (aW ops.toList)) a->wpAnyS P md ops (gq Q) S s (q.length+fuel) listed a w
 |[],listed,a,_,_,h=>by
  simp only[dG,bX];exact h
 |i::q,listed,a,inv,hB,h=>by
  simp only[qV,aD,decide_eq_true_eq] at hB;obtain⟨⟨⟨⟨h1,h2⟩,h3⟩,h4⟩,h5⟩:=hB;have ho:=iZ (ops:=ops) (show i<ops.size from ar)
  have hq:qOp P ops S i (wpQuiet P ops S (λ a'=>wpAnyS P md ops (gq Q) S s fuel (iB (listed.setIfInBounds i true) q) a' w) (q.map (aW ops.toList))) a:=by unfold qOp;simp only[ho];exact h
  obtain⟨v,hy,hK⟩:=yieldsIn_of_qOp ho hq;have e:(i::q).length+fuel=(q.length+fuel)+1:=by simp only[bD];omega
  rw[e];have hr:i∈Region.ready md ops listed:=by simpa using h3
  exact wpAnyS_first ho (Region.noSelect_spec oM) (λ _ _ _ h=>h) hs hc hn h1 _ listed a w inv (Region.free_spec ho h4) hr (ub h2 hy) hS (ue oM hs hc hn hS q _ _ (inv.set hr h1) h5 hK)
theorem wk{fuel:Nat}{K:xD}:∀(r:List Nat)(listed:Array Bool)(a:Act)(w:agb),S w->vA md ops s r listed=true->s<ops.size->
 (∀a' w',S w'->K a' w'->wpAnyS P md ops (gq Q) S s fuel (iB listed r) a' w')->ox P ops S Q K (r.map (aW ops.toList)) a w->wpAnyS P md ops (gq Q) S s (r.length+fuel) listed a w
 |[],listed,a,w,hS,_,_,hK,h=>by
  simp only[dG,bX];exact hK a w hS h
 |i::r,listed,a,w,hS,hB,hn,hK,h=>by
  simp only[vA,aD,decide_eq_true_eq] at hB;obtain⟨⟨h1,h2⟩,h3⟩:=hB;have ho:=iZ (ops:=ops) (show i<ops.size from ar);have e:(i::r).length+fuel=(r.length+fuel)+1:=by simp only[bD];omega
  rw[e];refine⟨λ h0=>(by rw[h2] at h0;cases h0),λ j hj=>?_⟩;rw[h2] at hj;obtain rfl:j=i:=by simpa using hj
  exact wpOp_mono (λ a' w' h'=>⟨λ _=>h'.1,wk r _ a' w' h'.1 h3 hn hK h'.2⟩) (kV ho h)
theorem quiet_mono{C:agb->Prop}:∀(l:List Oper)(a:Act)(Q1 Q2:Act->Prop),(∀a,Q1 a->Q2 a)->wpQuiet P ops C Q1 l a->wpQuiet P ops C Q2 l a:=by
 intro l;induction l with
 |nil=>intro a Q1 Q2 hq hh;exact hq _ hh
 |cons o l ih=>
  intro a Q1 Q2 hq hh;unfold wpQuiet at hh⊢;split
  · rename_i hw
    rw[if_pos hw] at hh;exact Oper.quiet_mono (λ a ha=>ih a Q1 Q2 hq ha) hh
  · rename_i hw
    rw[if_neg hw] at hh;exact ih _ Q1 Q2 hq hh
theorem rJ(oM:Region.noSelect ops=true)(hs:Region.sinkB md ops s=true)(hc:Region.chainB md ops s=true)(hn:s<ops.size):∀(fY:List (List Nat×List Nat))(listed:Array Bool)(a:Act)(w:agb),S w->HeadInv md ops s listed->xT md ops s fY listed=true->
 nP P ops S Q (λ a w=>wpList P ops (Exit.then (λ a w=>Q .normal a w) (gq Q)) [aW ops.toList s] a w) (fY.map λ p=>(p.1.map (aW ops.toList),p.2.map (aW ops.toList))) a w->wpAnyS P md ops (gq Q) S s (ez fY+1) listed a w
 |[],listed,a,w,hS,inv,hB,h=>by
  simp only[xT,aD,decide_eq_true_eq] at hB;obtain⟨h1,h2⟩:=hB;refine⟨λ h0=>(by rw[h1] at h0;cases h0),λ j hj=>?_⟩;rw[h1] at hj;obtain rfl:j=s:=by simpa using hj
  exact wpOp_mono (λ a' w' h'=>⟨λ h=>absurd rfl h,(by simpa using h2),h'⟩) (kV (iZ hn) h)
 |(q,r)::rest,listed,a,w,hS,inv,hB,h=>by
  simp only[xT,aD] at hB;obtain⟨⟨h1,h2⟩,h3⟩:=hB;have e:ez ((q,r)::rest)+1=q.length+(r.length+(ez rest+1)):=by show q.length+(r.length+ez rest)+1=_;omega
  rw[e];refine ue oM hs hc hn hS q listed a inv h1 ?_;exact quiet_mono _ _ _ _ (λ a' ha=>wk r _ a' w hS h2 hn (λ a2 w2 FA hK=>rJ oM hs hc hn rest _ a2 w2 FA (ud r _ h2 (pI q _ h1 inv)) h3 hK) ha) h
end
theorem BH{P:Program}{id:Nat}{Q:lC}{a:Act}{w:agb}{l:List Oper}(S:agb->Prop)(fY:List (List Nat×List Nat))(s:Nat)(hm:P.follows .mixedOrders=true)
 (hB:(Region.noSelect l.toArray&&decide (ez fY+1=l.length)&&decide (s<l.length)&&Region.sinkB .any l.toArray s&&Region.chainB .any l.toArray s&&xT .any l.toArray s fY (Array.replicate l.length false))=true)(hS:S w.drew)
 (h:nP P l.toArray S Q (λ a w=>wpList P l.toArray (Exit.then (λ a w=>Q .normal a w) (gq Q)) [aW l s] a w) (fY.map λ p=>(p.1.map (aW l),p.2.map (aW l))) a w.drew):(Code.region id l.toArray true).wp P Q a w:=by
 simp only[aD,decide_eq_true_eq] at hB;obtain⟨⟨⟨⟨⟨h1,h2⟩,h3⟩,h4⟩,h5⟩,h6⟩:=hB;refine Code.wp_mono (Q:=gq Q) (λ e a w h=>?_) ?_
 · cases e with
   |normal=>exact h
   |_=>exact h.elim
 · refine wp_region_any hm (sG (S:=S) (s:=s) _ _ _ _ ?_)
   have GP:HeadInv .any l.toArray s (Array.replicate l.length false):=
    ⟨bY,λ j oj _ hl=>(by rw[getD_replicate_false] at hl;cases hl),λ t _ ht=>getD_in (by simpa using ht) (getD_replicate_false _ _)⟩
   have :=rJ (P:=P) (md:=.any) (S:=S) (Q:=Q) h1 h4 h5 (by simpa using h3) fY (Array.replicate l.length false) a w.drew hS GP h6 (by simpa using h);rw[h2] at this;simpa using this
section
variable{P:Program}{l:List Oper}{S:agb->Prop}{Q:lC}{K:xD}{q r:List Nat}{rest:List (List Nat×List Nat)}{a:Act}{w:agb}
def lL(P:Program)(l:List Oper)(S:agb->Prop)(Q:lC)(K:xD)(fY:List (List Nat×List Nat))(a:Act)(w:agb):Prop:=
 nP P l.toArray S Q K (fY.map λ p=>(p.1.map (aW l),p.2.map (aW l))) a w
def Sa(P:Program)(l:List Oper)(S:agb->Prop)(Q:lC)(K:xD)(fY:List (List Nat×List Nat))(r:List Nat)(a:Act)(w:agb):Prop:=
 ox P l.toArray S Q (lL P l S Q K fY) (r.map (aW l)) a w
theorem bT(h:∀K':Act->Prop,(∀a',Sa P l S Q K rest r a' w->K' a')->wpQuiet P l.toArray S K' (q.map (aW l)) a):lL P l S Q K ((q,r)::rest) a w:=
 h _ λ _ h=>h
theorem cM{i:Nat}(h:∀K':xD,(∀a' w',S w'->Sa P l S Q K rest r a' w'->K' a' w')->wpList P l.toArray (Exit.then K' (gq Q)) [aW l i] a w):Sa P l S Q K rest (i::r) a w:=
 h (Nxt S (Sa P l S Q K rest r)) λ _ _ h1 h2=>⟨h1,h2⟩
theorem bU(h:lL P l S Q K rest a w):Sa P l S Q K rest [] a w:=h
theorem dF(h:K a w):lL P l S Q K [] a w:=h
theorem CZ:∀(fY:List (List Oper×List Oper))(a:Act)(w:agb){ops:Array Oper},nP P ops S Q (Q .normal) fY a w->pH P ops S Q fY a w:=by
 intro fY;induction fY with
 |nil=>intro a w ops h;exact h
 |cons p rest ih=>
  obtain⟨q,r⟩:=p;intro a w ops h
  have e:∀(r:List Oper)(a:Act)(w:agb),ox P ops S Q (nP P ops S Q (Q .normal) rest) r a w->ox P ops S Q (pH P ops S Q rest) r a w:=by
   have he:nP P ops S Q (Q .normal) rest=pH P ops S Q rest:=by
    clear h ih;induction rest with
    |nil=>rfl
    |cons p rest ih=>
     obtain⟨q,r⟩:=p;funext a w
     show wpQuiet P ops S (λ a'=>ox P ops S Q (nP P ops S Q (Q .normal) rest) r a' w) q a=wpQuiet P ops S (λ a'=>ox P ops S Q (pH P ops S Q rest) r a' w) q a;rw[ih]
   rw[he];exact λ _ _ _ h=>h
  exact quiet_mono _ _ _ _ (λ a' ha=>e r a' w ha) h
end
theorem Jp{P:Program}{id:Nat}{Q:lC}{a:Act}{w:agb}{l:List Oper}(S:agb->Prop)(fY:List (List Nat×List Nat))(hm:P.follows .mixedOrders=true)
 (hB:(Region.noSelect l.toArray&&decide (ez fY=l.length)&&Ab .any l.toArray fY (Array.replicate l.length false))=true)(hS:S w.drew)
 (h:lL P l S Q (Q .normal) fY a w.drew):(Code.region id l.toArray true).wp P Q a w:=
 CW S fY hm hB hS (CZ _ _ _ h)
theorem sH{P:Program}{id:Nat}{Q:lC}{a:Act}{w:agb}{l:List Oper}(X:agb)(fY:List (List Nat×List Nat))(hX:aZ X w)(hm:P.follows .mixedOrders=true)
 (hB:(Region.noSelect l.toArray&&decide (ez fY=l.length)&&Ab .any l.toArray fY (Array.replicate l.length false))=true)
 (h:∀u,lL P l (λ w'=>∃u,w'=ext X u) Q (Q .normal) fY a (ext X u)):(Code.region id l.toArray true).wp P Q a w:=by
 obtain⟨u,hu⟩:=dV hX.drew;refine Jp (S:=λ w'=>∃u,w'=ext X u) fY hm hB ⟨u,hu.symm⟩ ?_;rw[<-hu];exact h u
theorem ed{P:Program}{id:Nat}{Q:lC}{a:Act}{w:agb}{l:List Oper}(S:agb->Prop)(fY:List (List Nat×List Nat))(s:Nat)(hm:P.follows .mixedOrders=true)
 (hB:(Region.noSelect l.toArray&&decide (ez fY+1=l.length)&&decide (s<l.length)&&Region.sinkB .any l.toArray s&&Region.chainB .any l.toArray s&&xT .any l.toArray s fY (Array.replicate l.length false))=true)(hS:S w.drew)
 (h:lL P l S Q (λ a w=>wpList P l.toArray (Exit.then (λ a w=>Q .normal a w) (gq Q)) [aW l s] a w) fY a w.drew):(Code.region id l.toArray true).wp P Q a w:=
 BH S fY s hm hB hS h
theorem GQ{X u:agb}:(λ w'=>∃u,w'=ext X u) (ext X u):=⟨u,rfl⟩
def jP(o:Option Nat)(X u:agb):agb:=
 {heap:=(X.heap.mapIdx λ i b=>if o=O i then(u.heap[i]?).getD b else b)++u.heap.extract X.heap.size u.heap.size,tape:=X.tape,drawn:=u.drawn,os:=X.os,output:=X.output}
section
variable{o:Option Nat}{X u w':agb}
theorem FB{k:Nat}(h:k<X.heap.size)(hn:¬o=O k):(jP o X u).heap[k]?=X.heap[k]?:=by show(Array.mapIdx _ X.heap++_)[k]?=_;rw[iU (by simpa using h),Array.getElem?_mapIdx];rw[cP h];simp[hn]
theorem Ph:X.heap.size<=(jP o X u).heap.size:=by show _<=(Array.mapIdx _ X.heap++_).size;rw[Array.size_append];simp
theorem fE(b off:Nat)(h:b<X.heap.size)(hn:¬o=O b):(jP o X u).cell? ⟨b,off,U⟩=X.cell? ⟨b,off,U⟩:=World.cell?_of_block (a:=⟨b,off,U⟩) (FB h hn)
theorem WQ{S:Nat->Prop}(h:Only S X w')(hS:∀g,S g->o=O g):∃u,w'=jP o X u:=by
 refine⟨w',?_⟩;have h1:=h.os;have h2:=h.tape;have h3:=h.output;have h4:=h.size;have h5:=h.block;obtain⟨heap,tape,drawn,os,output⟩:=w';simp only at h1 h2 h3 h4 h5;unfold jP;simp only[World.mk.injEq];refine⟨?_,h2,trivial,h1,h3⟩;apply jt
 intro i;by_cases hi:i<X.heap.size
 · rw[iU (by simpa using hi),Array.getElem?_mapIdx,cP hi]
   by_cases ho:o=O i
   · simp only[ja,ho,if_true]
     rw[cP ar];rfl
   · rw[h5 i hi (λ hs=>ho (hS i hs)),cP hi]
     simp[ho]
 · rw[Array.getElem?_append_right gW,Array.getElem?_extract]
   simp only[Array.size_mapIdx];split
   · congr 1;omega
   · rw[cI ar]
theorem dT(h:Only (λ g=>o=O g) X w'):∃u,w'=jP o X u:=WQ h λ _ h=>h
end
end
section
open Go.RowKit Go.Maps
def u7{κ:Type}[DecidableEq κ](f:κ->Option Bool)(c:κ)(v:Bool):κ->Option Bool:=λ x=>if x=c then O v else f x
section
variable{κ:Type}[DecidableEq κ]
theorem Pb(f:κ->Option Bool)(c:κ)(v:Bool):u7 f c v c=O v:=if_pos rfl
theorem CC(f:κ->Option Bool){c x:κ}(v:Bool)(h:x≠c):u7 f c v x=f x:=if_neg h
end
def iI{κ:Type}(lit:κ->Lit)(P:Program)(k e:TypeId)(w:agb)(b m:Nat)(f:κ->Option Bool):Prop:=
 ∃aak:DataW Unit,w.ownsMap P k (plainElem P e) b m aak/\size aak=m/\∀c,has aak (lit c)=(f c).isSome/\aak.atKey (lit c) (.lit (.bool false))=.lit (.bool ((f c).getD false))
section
variable{κ:Type}{lit:κ->Lit}{P:Program}{k e t:TypeId}{w w':agb}{b m:Nat}{f:κ->Option Bool}
theorem vX(he:P.underlying e=O .bool){v:R}{z:DataW Unit×List MemPlace}(h:plainElem P e v=O z):∃x,v=.bool x/\z=(.lit (.bool x),[]):=by
 unfold plainElem at h;rw[he] at h;cases v<;>simp at h
 exact⟨_,rfl,h.symm⟩
theorem iI.lt(h:iI lit P k e w b m f):b<w.heap.size:=by obtain⟨aak,h,_⟩:=h;exact h.lt
theorem iI.only{S:Nat->Prop}(h:iI lit P k e w b m f)(ho:Only S w w')(hn:¬S b):iI lit P k e w' b m f:=by obtain⟨aak,h1,h2,h3⟩:=h;refine⟨aak,?_,h2,h3⟩;have hb:=h1.lt;obtain⟨es,clock,hh,r⟩:=h1;exact⟨es,clock,(ho.block b hb hn).trans hh,r⟩
theorem iI.below(h:iI lit P k e w b m f)(hb:aZ w w'):iI lit P k e w' b m f:=h.only (aw (S:=λ _=>False) hb) (λ h=>h)
theorem iI.new(lit:κ->Lit)(P:Program)(k e:TypeId)(w:agb):iI lit P k e (w.alloc (.map #[] 0)) w.heap.size 0 (λ _=>U):=
 ⟨.map [],World.ownsMap_made w P k _,rfl,λ _=>⟨rfl,rfl⟩⟩
theorem iI.look(h:iI lit P k e w b m f)(K:Keyed P k)(ht:P.underlying t=O (.map k e))(he:P.underlying e=O .bool)(hz:(zeroValue e).run P w=.ok (.bool false) w){key:R}{c:κ}(hkey:keyOf P k key=O (lit c)):
 (Instr.lookup t (.map (O b)) key false).run P w=.ok (.bool ((f c).getD false)) w:=by
 obtain⟨aak,h1,_,h3⟩:=h;obtain⟨v,ps,hrun,hv⟩:=h1.lookup K ht hz (plainElem_bool he false) hkey;obtain⟨x,rfl,hx⟩:=vX he hv;rw[hrun];have :=(congrArg Prod.fst hx);simp only[(h3 c).2,DataW.lit.injEq,Lit.bool.injEq] at this;rw[this]
theorem iI.store[DecidableEq κ](h:iI lit P k e w b m f)(K:Keyed P k)(ht:P.underlying t=O (.map k e))(he:P.underlying e=O .bool)(AY:∀x y,lit x=lit y->x=y)(hm:m<maxLen){key:R}{c:κ}(hkey:keyOf P k key=O (lit c))(v:Bool):
 ∃w',(Instr.mapUpdate t (.map (O b)) key (.bool v)).run P w=.ok () w'/\iI lit P k e w' b (if(f c).isSome then m else m+1) (u7 f c v)/\Only (λ g=>g=b) w w':=by
 obtain⟨aak,h1,h2,h3⟩:=h;obtain⟨w',hrun,h4,h5⟩:=h1.update K ht hm hkey (plainElem_bool he v);have hk:=K.key hkey;have hsz:=size_put (h1.tidy K) (k:=lit c) (.lit (.bool v));rw[(h3 c).1,h2] at hsz;refine⟨w',hrun,⟨aak.put (lit c) (.lit (.bool v)),?_,hsz,λ x=>?_⟩,?_⟩
 · obtain⟨es,clock,hb,F,hs,e⟩:=h4
   refine⟨es,clock,hb,F,?_,e⟩
   have :size (aak.put (lit c) (.lit (.bool v)))=es.size:=by rw[e];simp[size,Go.length_sorted]
   omega
 · by_cases hx:x=c
   · subst hx
     rw[Pb];exact⟨has_put_same h1.isMap hk _,atKey_put_same h1.isMap hk _ _⟩
   · have hl:lit x≠lit c:=λ e=>hx (AY _ _ e)
     rw[CC f v hx,has_put_other hl,atKey_put_other hl];exact h3 x
 · exact(Only.refl (λ g=>g=b) w).grown h5 (λ g hg=>.inl (by simpa using hg.symm))
end
section
variable{κ:Type}{lit:κ->Lit}{P:Program}{w:agb}{ops:Array Oper}{rest:List Oper}{o:Oper}{a:Act}{Q:lC}{b m:Nat}{f:κ->Option Bool}
theorem mg(hg:o.guard=U)(mm x:Operand)(t:TypeId)(hop:o.op=Op.lookup t mm x false)(k e:TypeId)(K:Keyed P k)(ht:P.underlying t=O (.map k e))(he:P.underlying e=O .bool)(hz:(zeroValue e).run P w=.ok (.bool false) w)
 (hm:a.eval mm=.map (O b))(h:iI lit P k e w b m f)(key:R)(c:κ)(hx:a.eval x=key)(hkey:keyOf P k key=O (lit c))(hK:wpList P ops Q rest (a.put o.dst (.bool ((f c).getD false))) w):wpList P ops Q (o::rest) a w:=by
 refine wpList_plain hg λ K' hK'=>?_;have hrun:=h.look K ht he hz hkey;unfold Oper.wp;simp[execOp,hop,hm,hx,hrun,Result.andThen];exact hK' _ _ hK
theorem lT[DecidableEq κ](hg:o.guard=U)(mm x v:Operand)(t:TypeId)(hop:o.op=Op.mapUpdate t mm x v)(k e:TypeId)(K:Keyed P k)(ht:P.underlying t=O (.map k e))(he:P.underlying e=O .bool)(AY:∀x y,lit x=lit y->x=y)(hlen:m<maxLen)
 (hm:a.eval mm=.map (O b))(h:iI lit P k e w b m f)(key:R)(c:κ)(hx:a.eval x=key)(hkey:keyOf P k key=O (lit c))(y:Bool)(hv:a.eval v=.bool y)
 (hK:∀w',iI lit P k e w' b (if(f c).isSome then m else m+1) (u7 f c y)->Only (λ g=>g=b) w w'->wpList P ops Q rest (a.put o.dst undef) w'):wpList P ops Q (o::rest) a w:=by
 refine wpList_plain hg λ K' hK'=>?_;obtain⟨w',hrun,h1,h2⟩:=h.store K ht he AY hlen hkey y;unfold Oper.wp;simp[execOp,hop,hm,hx,hv,hrun,Result.andThen];exact hK' _ _ (hK w' h1 h2)
end
def eh(w:agb)(b:Nat)(l:List (Int×R)):Prop:=
 ∃es clock,w.heap[b]?=O (.map es clock)/\es.toList.map (λ e=>(e.key,e.val))=l.map λ p=>(I J p.1,p.2)
def gj(k:Int):List (Int×R)->Option R
 |[]=>U
 |p::l=>if k=p.1 then O p.2 else gj k l
section
variable{P:Program}{w w':agb}{b:Nat}{l:List (Int×R)}{kt t e:TypeId}
theorem eh.lt(h:eh w b l):b<w.heap.size:=by
 obtain⟨es,c,h,_⟩:=h;rcases eC b w.heap.size with h'|h'
 · exact h'
 · rw[cI h'] at h;cases h
theorem eh.only{S:Nat->Prop}(h:eh w b l)(ho:Only S w w')(hn:¬S b):eh w' b l:=by have hl:=h.lt;obtain⟨es,c,h,h2⟩:=h;exact⟨es,c,(ho.block b hl hn).trans h,h2⟩
theorem eh.below(h:eh w b l)(hb:aZ w w'):eh w' b l:=h.only (aw (S:=λ _=>False) hb) (λ h=>h)
theorem eh.new(w:agb):eh (w.alloc (.map #[] 0)) w.heap.size []:=⟨#[],0,heap_alloc_new w _,rfl⟩
theorem ua(k:Int):∀(es:List MapEntry)(l:List (Int×R))(i:Nat),es.map (λ e=>(e.key,e.val))=(l.map λ p=>(I J p.1,p.2))->
 ∃r,Instr.findNow (.int .i64) (I J k) es i=O r/\r.map (·.2)=gj k l/\(gj k l=U->r=U)
 |[],[],i,_=>⟨U,rfl,rfl,λ _=>rfl⟩
 |[],p::l,i,h=>by simp at h
 |e::es,[],i,h=>by simp at h
 |e::es,p::l,i,h=>by
  simp only[aH,iq,Prod.mk.injEq] at h;obtain⟨⟨h1,h2⟩,h3⟩:=h;unfold Instr.findNow;rw[h1];simp only[Instr.sameNow,if_true];by_cases hk:k=p.1
  · subst hk
    simp only[beq_self_eq_true];exact⟨_,rfl,by simp[gj,h2],by simp[gj]⟩
  · have hb:(k==p.1)=false:=by simpa using hk
    simp only[hb];obtain⟨r,r1,r2,r3⟩:=ua k es l (i+1) h3;refine⟨r,r1,by rw[r2];simp[gj,hk],λ h=>r3 (by simpa [gj,hk] using h)⟩
theorem yS(hk:P.underlying kt=O (.int .i64))(emp:Bool)(v:R)(w:agb):(Instr.checkKey emp 10000 kt v).run P w=.ok () w:=by unfold Instr.checkKey;rw[Sem.run_bind,run_underlying hk w];simp
theorem eh.look(h:eh w b l)(ht:P.underlying t=O (.map kt e))(hk:P.underlying kt=O (.int .i64)){z:R}(hz:(zeroValue e).run P w=.ok z w)(k:Int):
 (Instr.lookup t (.map (O b)) (I J k) false).run P w=.ok ((gj k l).getD z) w:=by
 obtain⟨es,c,h1,h2⟩:=h;obtain⟨r,r1,r2,r3⟩:=ua k es.toList l 0 h2;have hf:(Instr.findKey kt (I J k) es.toList).run P w=.ok r w:=MapKept.run_findKey hk r1;unfold Instr.lookup;simp only[Sem.run_bind,run_underlying ht w,Result.andThen_ok];cases hr:r with
 |none=>
  rw[hr] at r2 hf;have :gj k l=U:=by simpa using r2.symm
  rw[this];simp[Sem.run_bind,MapKept.run_getObj_map h1,yS hk,hf,hz]
 |some p=>
  rw[hr] at r2 hf;have :gj k l=O p.2:=by simpa using r2.symm
  rw[this];simp[Sem.run_bind,MapKept.run_getObj_map h1,yS hk,hf]
theorem eh.put(h:eh w b l)(ht:P.underlying t=O (.map kt e))(hk:P.underlying kt=O (.int .i64))(k:Int)(hn:gj k l=U)(v:R):
 ∃w',(Instr.mapUpdate t (.map (O b)) (I J k) v).run P w=.ok () w'/\eh w' b (l++[(k,v)])/\Only (λ g=>g=b) w w':=by
 have hlt:=h.lt;obtain⟨es,c,h1,h2⟩:=h;obtain⟨r,r1,r2,r3⟩:=ua k es.toList l 0 h2;have hr:=r3 hn;subst hr;have hf:(Instr.findKey kt (I J k) es.toList).run P w=.ok U w:=MapKept.run_findKey hk r1;refine⟨{w with heap:=w.heap.setIfInBounds b (.map (es.push {key:=I J k,val:=v,born:=c}) (c+1))},?_,?_,?_⟩
 · unfold Instr.mapUpdate
   simp[Sem.run_bind,run_underlying ht w,MapKept.run_getObj_map h1,yS hk,hf,MapKept.run_setObj_map _ h1]
 · refine⟨es.push {key:=I J k,val:=v,born:=c},c+1,by simp[hlt],?_⟩
   simp[h2]
 · exact⟨rfl,rfl,rfl,bY,λ g hg hn=>by have :b≠g:=λ e=>hn e.symm;simp[this]⟩
end
section
variable{P:Program}{w:agb}{ops:Array Oper}{rest:List Oper}{o:Oper}{a:Act}{Q:lC}{b:Nat}{l:List (Int×R)}{kt t e:TypeId}
theorem dQ(hg:o.guard=U)(mm x:Operand)(t:TypeId)(hop:o.op=Op.lookup t mm x false)(kt e:TypeId)(ht:P.underlying t=O (.map kt e))(hk:P.underlying kt=O (.int .i64))(z:R)(hz:(zeroValue e).run P w=.ok z w)
 (hm:a.eval mm=.map (O b))(h:eh w b l)(k:Int)(hx:a.eval x=I J k)(hK:wpList P ops Q rest (a.put o.dst ((gj k l).getD z)) w):wpList P ops Q (o::rest) a w:=by
 refine wpList_plain hg λ K' hK'=>?_;have hrun:=h.look ht hk hz k;unfold Oper.wp;simp[execOp,hop,hm,hx,hrun,Result.andThen];exact hK' _ _ hK
theorem gy(hg:o.guard=U)(mm x v:Operand)(t:TypeId)(hop:o.op=Op.insert t mm x v)(kt e:TypeId)(ht:P.underlying t=O (.map kt e))(hk:P.underlying kt=O (.int .i64))
 (hm:a.eval mm=.map (O b))(h:eh w b l)(k:Int)(hx:a.eval x=I J k)(hn:gj k l=U)(y:R)(hy:a.eval v=y)
 (hK:∀w',eh w' b (l++[(k,y)])->Only (λ g=>g=b) w w'->wpList P ops Q rest (a.put o.dst undef) w'):wpList P ops Q (o::rest) a w:=by
 refine wpList_plain hg λ K' hK'=>?_;obtain⟨w',hrun,h1,h2⟩:=h.put ht hk k hn y;unfold Oper.wp;simp[execOp,hop,hm,hx,hy,hrun,Result.andThen];exact hK' _ _ (hK w' h1 h2)
end
end
section
open Go.RowKit
section
variable{P:Program}{w:agb}{ops:Array Oper}{rest:List Oper}{o:Oper}{a:Act}{Q:lC}
theorem RR{K:xD}(t e:TypeId)(len s:Nat)(parts:Array (Nat×Operand))(ho:o.op=.buildSlice t len parts)(vs:List R)
 (hu:P.underlying t=O (.slice e))(hs:(P.info? e).map (λ i=>(i.size,i.zero.isSome))=O (s,true))(hlen:vs.length=len)(sy:0<len)(hs0:0<s)(GI:len*s<=2 ^ 24)
 (hp:(parts.map λ(i,x)=>(i,a.eval x)).toList=(vs.zipIdx 0).map λ x=>(x.2,x.1))(hv:∀v∈vs,v.cells.size=s)(z:R)(hzz:((P.info? e).bind (·.zero)).map (·.cells.size)=O s)
 (h:K (a.put o.dst (G (O ⟨w.heap.size,0,U⟩) len len)) (w.alloc (D (vs.flatMap λ v=>v.cells.toList).toArray e))):o.wp P a w K Q:=by
 cases hie:P.info? e with
 |none=>rw[hie] at hs;cases hs
 |some ie=>
  rw[hie] at hs hzz;simp only[ja,cQ,Prod.mk.injEq] at hs;obtain⟨h1,h2⟩:=hs;obtain⟨zv,hz⟩:=Option.isSome_iff_exists.1 h2;simp only[lH,hz,ja,cQ] at hzz;refine wp_buildSlice t e len parts ho _ ie zv hu hie hz (by rw[h1];omega) (by rw[h1];exact Nat.ne_of_gt (Nat.mul_pos sy hs0)) ?_ h;rw[hp,h1];exact Great.fill_whole hs0 vs _ hv (by simp[hlen])
theorem xM(hg:o.guard=U)(t e:TypeId)(len s:Nat)(parts:Array (Nat×Operand))(ho:o.op=.buildSlice t len parts)(vs:List R)
 (hu:P.underlying t=O (.slice e))(hs:(P.info? e).map (λ i=>(i.size,i.zero.isSome))=O (s,true))(hlen:vs.length=len)(sy:0<len)(hs0:0<s)(GI:len*s<=2 ^ 24)
 (hp:(parts.map λ(i,x)=>(i,a.eval x)).toList=(vs.zipIdx 0).map λ x=>(x.2,x.1))(hv:∀v∈vs,v.cells.size=s)(hzz:((P.info? e).bind (·.zero)).map (·.cells.size)=O s)
 (h:wpList P ops Q rest (a.put o.dst (G (O ⟨w.heap.size,0,U⟩) len len)) (w.alloc (D (vs.flatMap λ v=>v.cells.toList).toArray e))):wpList P ops Q (o::rest) a w:=
 wpList_plain hg λ _ hK=>RR t e len s parts ho vs hu hs hlen sy hs0 GI hp hv undef hzz (hK _ _ h)
theorem iz(hg:o.guard=U)(t e:TypeId)(x:Operand)(ho:o.op=.buildSlice t 1 #[(0,x)])(cells:Array R)(hx:a.eval x=.agg cells)
 (hu:P.underlying t=O (.slice e))(hs:(P.info? e).map (λ i=>(i.size,i.zero.isSome))=O (cells.size,true))(hs0:0<cells.size)(GI:cells.size<=2 ^ 24)(hzz:((P.info? e).bind (·.zero)).map (·.cells.size)=O cells.size)
 (h:wpList P ops Q rest (a.put o.dst (G (O ⟨w.heap.size,0,U⟩) 1 1)) (w.alloc (D cells e))):wpList P ops Q (o::rest) a w:=by
 refine xM hg t e 1 cells.size _ ho [.agg cells] hu hs rfl ar hs0 ar (by simp[hx]) (by simp[Value.cells]) hzz ?_;simpa [Value.cells] using h
end
section
variable{P:Program}{ops:Array Oper}{rest:List Oper}{o:Oper}{a:Act}{Q:lC}
theorem kr{K:Act->Prop}{C:agb->Prop}(ty:TypeId)(x:Operand)(ho:o.op=.load ty x)(b off:Nat)(hx:a.eval x=M (O ⟨b,off,U⟩))(cs:Array R)(d:TypeDesc)(hc:∀w,C w->∀j u,cs[j]?=O u->w.cell? ⟨b,off+j,U⟩=O u)
 (hu:P.underlying ty=O d)(hd:(match d with | .struct _| .array _ _=>true|_=>false)=true)(hi:(P.info? ty).map (·.size)=O cs.size)(h:K (a.put o.dst (.agg cs))):o.quiet P a C K:=by
 refine⟨.agg cs,λ w hC=>?_,h⟩;unfold Oper.quietAt execOp;simp only[ho,hx,Instr.loadAt,Instr.sureAddr,Sem.run_bind,Sem.run_pure,Result.andThen_ok,jl (hc w hC) hu hd hi];exact⟨rfl,rfl⟩
theorem jo{w:agb}(hw:Region.wanted o (yielded ops a.tmps)=true)(t e:TypeId)(x:Operand)(ho:o.op=.buildSlice t 1 #[(0,x)])(cells:Array R)(hx:a.eval x=.agg cells)
 (hu:P.underlying t=O (.slice e))(hs:(P.info? e).map (λ i=>(i.size,i.zero.isSome))=O (cells.size,true))(hs0:0<cells.size)(GI:cells.size<=2 ^ 24)(hzz:((P.info? e).bind (·.zero)).map (·.cells.size)=O cells.size)
 (h:wpList P ops Q rest (a.put o.dst (G (O ⟨w.heap.size,0,U⟩) 1 1)) (w.alloc (D cells e))):wpList P ops Q (o::rest) a w:=by
 unfold wpList;rw[if_pos hw];refine .inl (RR t e 1 cells.size _ ho [.agg cells] hu hs rfl ar hs0 ar (by simp[hx]) (by simp[Value.cells]) undef hzz ?_);simpa [Value.cells] using h
def cH{α:Type}(T:Ty α)(e:TypeId)(X:agb)(base B:Nat)(v:R)(qs:List α):Prop:=
 ∃css:List (List R),css.length=qs.length/\(∀i(h1:i<qs.length)(h2:i<css.length),T.rd X B css[i] qs[i])/\X.ownsRow base e T.n v qs.length css.flatten
variable{α:Type}{T:Ty α}{e:TypeId}{X X':agb}{base B:Nat}{v:R}{qs:List α}
theorem cH.nil:cH T e X base B (.slice .none 0 0) ([]:List α):=⟨[],rfl,λ i h=>absurd h bY,uK⟩
theorem cH.form(h:cH T e X base B v qs):∃A c,v=G A qs.length c/\qs.length<=c/\c<=maxLen:=by obtain⟨css,_,_,h3⟩:=h;exact fM h3
theorem cH.lt(h:cH T e X base B v qs):∀g,v.ownBlock=O g->base<=g/\g<X.heap.size:=λ g hg=>by obtain⟨css,_,_,h3⟩:=h;exact jd h3 hg
theorem cH.only{S:Nat->Prop}(h:cH T e X base B v qs)(ho:Only S X X')(hS:∀g,S g->B<=g)(hB:B<=X.heap.size)(hn:∀g,v.ownBlock=O g->¬S g):cH T e X' base B v qs:=by obtain⟨css,h1,h2,h3⟩:=h;exact⟨css,h1,λ i a b=>T.keep (ho.aK hS hB) (ah _) (h2 i a b),ee h3 ho hn⟩
theorem cH.below(h:cH T e X base B v qs)(hb:aZ X X')(hB:B<=X.heap.size):cH T e X' base B v qs:=
 h.only (aw (S:=λ _=>False) hb) (λ _ h=>h.elim) hB (λ _ _ h=>h)
theorem cH.elems{A:dB}{n c:Nat}{B2:Nat}(h:cH T e X base B (G A n c) qs)(hB:B<=B2)(h2:X.heap.size<=B2):cG T X B2 A qs:=by
 obtain⟨css,h1,EH,h3⟩:=h;rcases gO qs.length with h0|h0
 · have :qs=[]:=fp h0
   subst this;exact cG.nil
 · have hn:n=qs.length:=by
    obtain⟨A',c',e1,_,_⟩:=fM h3;injection e1
   subst hn;obtain⟨g,cur,rfl,hg1,hg2,_⟩:=yO h3 h0;exact yP h3 ar h1 λ i hi=>T.keep (aA _ _) hB (EH i hi ar)
theorem en(hgd:o.guard=U)(s x:Operand)(t:TypeId)(ho:o.op=.call {callee:=.builtin .append,args:=#[s,x],argTypes:=#[t,t]})(bytes:Nat)
 (ht:P.underlying t=O (.slice e))(hi:(P.info? e).map (λ i=>(i.size,i.bytes,i.zero.map λ z=>z.cells.size))=O (T.n,bytes,O T.n))(hsz:0<T.n)(hone:∀w B cs x,T.rd w B cs x->∀u∈cs,u.oneCell'=true)
 (hs:a.eval s=v)(hown:cH T e X base B v qs)(A:dB)(m c:Nat)(ns:List α)(css:List (List R))(hx:a.eval x=G A m c)(hm:ns.length=m)(hl:css.length=m)(hr:∀i(h1:i<ns.length)(h2:i<css.length),T.rd X B css[i] ns[i])
 (hsrc:Cn X A m css.flatten)(h63:qs.length+m<=maxLen)(hbytes:(qs.length+m)*bytes<=140737488355328)(hbase:base<=X.heap.size)(hB:B<=base)
 (h:∀A' c' w',cH T e w' base B (G A' (qs.length+m) c') (qs++ns)->Below base X w'->X.grownBy w' v.ownBlock->(A'.map (·.block)=v.ownBlock\/A'.map (·.block)=O X.heap.size)->wpList P ops Q rest (a.put o.dst (G A' (qs.length+m) c')) w'):wpList P ops Q (o::rest) a X:=by
 obtain⟨qcs,q1,q2,q3⟩:=hown;obtain⟨i,z,i1,i2,i3,i4,i5⟩:=kU hi
 have hn:∀c∈css,c.length=T.n:=λ c hc=>by obtain⟨k,hk,rfl⟩:=bo.1 hc;exact T.len (hr k ar hk)
 refine iG hgd s x t ho base e i z T.n bytes ht i1 i2 i3 i4 i5 hsz qs.length qcs.flatten hs q3 A m c css.flatten hx (by rw[qu css hn,hl]) hsrc
  (RH (T:=T) (w:=X) (B:=B) (λ cs x h=>hone X B cs x h) ar hr) h63 hbytes hbase (qs.length+m) (qcs.flatten++css.flatten) rfl rfl ?_
 intro A' c' w' h2 h3 h4 h5;refine h A' c' w' ⟨qcs++css,by simp[q1,hl,hm],λ k k1 k2=>?_,?_⟩ h3 h4 h5
 · by_cases hk:k<qs.length
   · rw[fO ar,fO hk]
     exact T.keep (h3.mono hB) (ah _) (q2 k hk ar)
   · rw[fG ar,fG ar]
     have e1:k - qcs.length=k - qs.length:=by rw[q1]
     simp only[e1];exact T.keep (h3.mono hB) (ah _) (hr (k - qs.length) (by simp at k1;omega) (by simp at k2;omega))
 · rw[List.flatten_append,ax,hm]
   exact h2
end
end
section
open Go.RowKit Go.ChangeShapes Go.WideShapes Go.Deep
def mY:Ty BA0 where
 n:=1
 rd:=λ _ _ cs x=>cs=[.string x]/\x.size<=1125899906842624
 len:=by rintro _ _ _ _ ⟨rfl,_⟩;rfl
 keep:=λ _ _ h=>h
def ig{α:Type}(P:Program)(t:TypeId)(T:Ty α):Prop:=
 P.cellsOf t=T.n/\∀(H:Type)(enc:TypeId×R->H)(w:agb)(spare:Nat->Bool)(held:Bool)(base fuel:Nat)(cs:List R)(x:DataW H×List MemPlace),
  DataW.trod enc P w base spare held fuel t cs=O x->(∀n∈x.1.weights P t,n<=reachBytes)->∃y,T.rd w w.heap.size cs y
theorem rv.z{α:Type}{P:Program}{t:TypeId}{T:Ty α}(h:rv P t T):ig P t T:=⟨h.1,λ H enc w spare held base fuel cs x hx _=>h.2 H enc w spare held base fuel cs x hx⟩
def xL{α:Type}(T:Ty α):Ty (List α) where
 n:=1
 rd:=λ w B cs xs=>(eF T).rd w B cs xs/\xs.length<=1125899906842624
 len:=λ h=>(eF T).len h.1
 keep:=λ hb hB h=>⟨(eF T).keep hb hB h.1,h.2⟩
inductive uN(P:Program):List Field->Nat->{α:Type}->Ty α->Prop
 |one {f:Field} {o:Nat} {α:Type} {T:Ty α} (ho:f.offset=o) (h:ig P f.type T):uN P [f] o T
 |cons {f:Field} {fs:List Field} {o:Nat} {α β:Type} {S:Ty α} {T:Ty β} (ho:f.offset=o) (h:ig P f.type S) (r:uN P fs (o+S.n) T):uN P (f::fs) o (fy S T)
theorem uN.reads{P:Program}{H:Type}{enc:TypeId×R->H}{w:agb}{spare:Nat->Bool}{held:Bool}{base m:Nat}:
 ∀{fs:List Field}{o:Nat}{α:Type}{T:Ty α},uN P fs o T->∀(cs:List R),cs.length=o+T.n->
  (∀f∈fs,∃x,DataW.trod enc P w base spare held m f.type ((cs.drop f.offset).take (P.cellsOf f.type))=O x/\∀n∈x.1.weights P f.type,n<=reachBytes)->∃y,T.rd w w.heap.size (cs.drop o) y:=by
 intro fs o α T h;induction h with
 |one ho h=>
  intro cs hl hx;obtain⟨x,hx,hw⟩:=hx _ (aN.2 rfl);obtain⟨y,hy⟩:=h.2 _ _ _ _ _ _ _ _ _ hx hw;rw[ho,h.1,cU gW] at hy;exact⟨y,hy⟩
 |cons ho h r ih=>
  rename_i f fs o α β S T;intro cs hl hx;obtain⟨x,hx1,hw1⟩:=hx _ (dA ..);obtain⟨y1,WC⟩:=h.2 _ _ _ _ _ _ _ _ _ hx1 hw1;rw[ho,h.1] at WC;have hl':cs.length=(o+S.n)+T.n:=by rw[hl];show o+(S.n+T.n)=_;omega
  obtain⟨y2,WD⟩:=ih cs hl' λ g hg=>hx g (di _ hg);refine⟨(y1,y2),(cs.drop o).take S.n,(cs.drop (o+S.n)),?_,WC,WD⟩;rw[<-List.drop_drop,ia]
structure Pa(P:Program)(H:Type)(enc:TypeId×R->H)(W:agb)(t:TypeId)(v:R):Prop where
 ok:∃base,Value.okWide P W .any base t v
 reads:∃d ps,DataW.Trod enc P W 0 (λ _=>true) true t v d ps/\∀n∈d.weights P t,n<=reachBytes
theorem Pa.got{P:Program}{H:Type}{enc:TypeId×R->H}{W:agb}{t:TypeId}{v:R}(g:Pa P H enc W t v):Got P H enc W t v:=⟨g.ok,by obtain⟨d,ps,h,_⟩:=g.reads;exact⟨d,ps,h⟩⟩
inductive nN(P:Program)(H:Type)(enc:TypeId×R->H)(W:agb):List TypeId->List R->Prop
 |nil:nN P H enc W [] []
 |cons {t:TypeId} {ts:List TypeId} {v:R} {vs:List R}:Pa P H enc W t v->nN P H enc W ts vs->nN P H enc W (t::ts) (v::vs)
theorem nN.cons_inv{P:Program}{H:Type}{enc:TypeId×R->H}{W:agb}{t:TypeId}{ts:List TypeId}{vs:List R}(h:nN P H enc W (t::ts) vs):
 ∃v us,vs=v::us/\Pa P H enc W t v/\nN P H enc W ts us:=by
 cases h with
 |cons h1 h2=>exact⟨_,_,rfl,h1,h2⟩
theorem nN.WE{P:Program}{H:Type}{enc:TypeId×R->H}{W:agb}{vs:List R}(h:nN P H enc W [] vs):vs=[]:=by cases h;rfl
theorem CB{P:Program}{H:Type}{enc:TypeId×R->H}{W:agb}{base:Nat}:∀{ts:List TypeId}{vs:List R}{ds:List (DataW H)}{ps:List MemPlace},
 DataW.TrodAll enc P W 0 (λ _=>true) true ts vs ds ps->(∀(j:Nat) t v,ts[j]?=O t->vs[j]?=O v->Value.okWide P W .any base t v)->(∀n∈DataW.weightsEach P ts ds,n<=reachBytes)->nN P H enc W ts vs
 |[],_,_,_,h,_,_=>by
  obtain⟨rfl,rfl,rfl⟩:=trodAll_nil h;exact .nil
 |t::ts,_,_,_,h,gU,hw=>by
  obtain⟨v,vs,d,ds,p,q,rfl,rfl,rfl,h1,h2⟩:=trodAll_cons h
  exact .cons ⟨⟨base,gU 0 t v rfl rfl⟩,⟨d,p,h1,λ n hn=>hw n (by simp only[DataW.weightsEach,bV];exact .inl hn)⟩⟩
   (CB h2 (λ j u x hu hx=>gU (j+1) u x hu hx) λ n hn=>hw n (by simp only[DataW.weightsEach,bV];exact .inr hn))
theorem Pa.agg{α:Type}{P:Program}{H:Type}{enc:TypeId×R->H}{w:agb}{t:TypeId}{fs:Array Field}{T:Ty α}{v:R}
 (g:Pa P H enc w t v)(ht:P.underlying t=O (.struct fs))(hT:ig P t T):∃cs y,v=.agg cs/\T.rd w w.heap.size cs.toList y:=by
 obtain⟨⟨base,hv⟩,d,ps,h,hw⟩:=g;obtain⟨cs,rfl,_⟩:=okWide_struct ht hv;obtain⟨n,hn⟩:=h;obtain⟨y,hy⟩:=hT.2 _ _ _ _ _ _ _ _ _ hn hw;exact⟨cs,y,rfl,hy⟩
end
section
open Go.RowKit Go.Maps
def cS(w:agb)(b:Nat)(l:List (BA0×R)):Prop:=
 ∃es clock,w.heap[b]?=O (.map es clock)/\es.toList.map (λ e=>(e.key,e.val))=l.map λ p=>(.string p.1,p.2)
def fJ(k:BA0):List (BA0×R)->Option R
 |[]=>U
 |p::l=>if k=p.1 then O p.2 else fJ k l
section
variable{P:Program}{w w':agb}{b:Nat}{l:List (BA0×R)}{kt t e:TypeId}
theorem cS.lt(h:cS w b l):b<w.heap.size:=by
 obtain⟨es,c,h,_⟩:=h;rcases eC b w.heap.size with h'|h'
 · exact h'
 · rw[cI h'] at h;cases h
theorem cS.only{S:Nat->Prop}(h:cS w b l)(ho:Only S w w')(hn:¬S b):cS w' b l:=by have hl:=h.lt;obtain⟨es,c,h,h2⟩:=h;exact⟨es,c,(ho.block b hl hn).trans h,h2⟩
theorem cS.below(h:cS w b l)(hb:aZ w w'):cS w' b l:=h.only (aw (S:=λ _=>False) hb) (λ h=>h)
theorem cS.new(w:agb):cS (w.alloc (.map #[] 0)) w.heap.size []:=⟨#[],0,heap_alloc_new w _,rfl⟩
theorem Fp(a b:BA0):(a==b)=decide (a=b):=by
 obtain⟨x⟩:=a;obtain⟨y⟩:=b;show(x==y)=_;by_cases h:x=y
 · subst h;simp
 · simp[h]
theorem qw(k:BA0):∀(es:List MapEntry)(l:List (BA0×R))(i:Nat),es.map (λ e=>(e.key,e.val))=(l.map λ p=>(Value.string p.1,p.2))->
 ∃r,Instr.findNow .string (.string k) es i=O r/\r.map (·.2)=fJ k l/\(fJ k l=U->r=U)
 |[],[],i,_=>⟨U,rfl,rfl,λ _=>rfl⟩
 |[],p::l,i,h=>by simp at h
 |e::es,[],i,h=>by simp at h
 |e::es,p::l,i,h=>by
  simp only[aH,iq,Prod.mk.injEq] at h;obtain⟨⟨h1,h2⟩,h3⟩:=h;unfold Instr.findNow;rw[h1];simp only[Instr.sameNow];by_cases hk:k=p.1
  · subst hk
    rw[Fp,decide_eq_true rfl];simp only;exact⟨_,rfl,by simp[fJ,h2],by simp[fJ]⟩
  · have hb:(k==p.1)=false:=by rw[Fp,decide_eq_false hk]
    simp only[hb];obtain⟨r,r1,r2,r3⟩:=qw k es l (i+1) h3;refine⟨r,r1,by rw[r2];simp[fJ,hk],λ h=>r3 (by simpa [fJ,hk] using h)⟩
theorem rI(hk:P.underlying kt=O .string)(emp:Bool)(v:R)(w:agb):(Instr.checkKey emp 10000 kt v).run P w=.ok () w:=by unfold Instr.checkKey;rw[Sem.run_bind,run_underlying hk w];simp
theorem cS.look(h:cS w b l)(ht:P.underlying t=O (.map kt e))(hk:P.underlying kt=O .string){z:R}(hz:(zeroValue e).run P w=.ok z w)(k:BA0):
 (Instr.lookup t (.map (O b)) (.string k) false).run P w=.ok ((fJ k l).getD z) w:=by
 obtain⟨es,c,h1,h2⟩:=h;obtain⟨r,r1,r2,r3⟩:=qw k es.toList l 0 h2;have hf:(Instr.findKey kt (.string k) es.toList).run P w=.ok r w:=MapKept.run_findKey hk r1;unfold Instr.lookup;simp only[Sem.run_bind,run_underlying ht w,Result.andThen_ok];cases hr:r with
 |none=>
  rw[hr] at r2 hf;have :fJ k l=U:=by simpa using r2.symm
  rw[this];simp[Sem.run_bind,MapKept.run_getObj_map h1,rI hk,hf,hz]
 |some p=>
  rw[hr] at r2 hf;have :fJ k l=O p.2:=by simpa using r2.symm
  rw[this];simp[Sem.run_bind,MapKept.run_getObj_map h1,rI hk,hf]
theorem cS.put(h:cS w b l)(ht:P.underlying t=O (.map kt e))(hk:P.underlying kt=O .string)(k:BA0)(hn:fJ k l=U)(v:R):
 ∃w',(Instr.mapUpdate t (.map (O b)) (.string k) v).run P w=.ok () w'/\cS w' b (l++[(k,v)])/\Only (λ g=>g=b) w w':=by
 have hlt:=h.lt;obtain⟨es,c,h1,h2⟩:=h;obtain⟨r,r1,r2,r3⟩:=qw k es.toList l 0 h2;have hr:=r3 hn;subst hr;have hf:(Instr.findKey kt (.string k) es.toList).run P w=.ok U w:=MapKept.run_findKey hk r1;refine⟨{w with heap:=w.heap.setIfInBounds b (.map (es.push {key:=.string k,val:=v,born:=c}) (c+1))},?_,?_,?_⟩
 · unfold Instr.mapUpdate
   simp[Sem.run_bind,run_underlying ht w,MapKept.run_getObj_map h1,rI hk,hf,MapKept.run_setObj_map _ h1]
 · refine⟨es.push {key:=.string k,val:=v,born:=c},c+1,by simp[hlt],?_⟩
   simp[h2]
 · exact⟨rfl,rfl,rfl,bY,λ g hg hn=>by have :b≠g:=λ e=>hn e.symm;simp[this]⟩
theorem cS.look_ok(h:cS w b l)(ht:P.underlying t=O (.map kt e))(hk:P.underlying kt=O .string){z:R}(hz:(zeroValue e).run P w=.ok z w)(k:BA0):
 (Instr.lookup t (.map (O b)) (.string k) true).run P w=.ok (.tuple #[(fJ k l).getD z,.bool (fJ k l).isSome]) w:=by
 obtain⟨es,c,h1,h2⟩:=h;obtain⟨r,r1,r2,r3⟩:=qw k es.toList l 0 h2;have hf:(Instr.findKey kt (.string k) es.toList).run P w=.ok r w:=MapKept.run_findKey hk r1;unfold Instr.lookup;simp only[Sem.run_bind,run_underlying ht w,Result.andThen_ok];cases hr:r with
 |none=>
  rw[hr] at r2 hf;have :fJ k l=U:=by simpa using r2.symm
  rw[this];simp[Sem.run_bind,MapKept.run_getObj_map h1,rI hk,hf,hz]
 |some p=>
  rw[hr] at r2 hf;have :fJ k l=O p.2:=by simpa using r2.symm
  rw[this];simp[Sem.run_bind,MapKept.run_getObj_map h1,rI hk,hf]
end
section
variable{P:Program}{w:agb}{ops:Array Oper}{rest:List Oper}{o:Oper}{a:Act}{Q:lC}{b:Nat}{l:List (BA0×R)}{kt t e:TypeId}
theorem LC(hg:o.guard=U)(mm x:Operand)(t:TypeId)(hop:o.op=Op.lookup t mm x false)(kt e:TypeId)(ht:P.underlying t=O (.map kt e))(hk:P.underlying kt=O .string)(z:R)(hz:(zeroValue e).run P w=.ok z w)
 (hm:a.eval mm=.map (O b))(h:cS w b l)(k:BA0)(hx:a.eval x=.string k)(hK:wpList P ops Q rest (a.put o.dst ((fJ k l).getD z)) w):wpList P ops Q (o::rest) a w:=by
 refine wpList_plain hg λ K' hK'=>?_;have hrun:=h.look ht hk hz k;unfold Oper.wp;simp[execOp,hop,hm,hx,hrun,Result.andThen];exact hK' _ _ hK
theorem eH(hg:o.guard=U)(mm x v:Operand)(t:TypeId)(hop:o.op=Op.insert t mm x v)(kt e:TypeId)(ht:P.underlying t=O (.map kt e))(hk:P.underlying kt=O .string)
 (hm:a.eval mm=.map (O b))(h:cS w b l)(k:BA0)(hx:a.eval x=.string k)(hn:fJ k l=U)(y:R)(hy:a.eval v=y)
 (hK:∀w',cS w' b (l++[(k,y)])->Only (λ g=>g=b) w w'->wpList P ops Q rest (a.put o.dst undef) w'):wpList P ops Q (o::rest) a w:=by
 refine wpList_plain hg λ K' hK'=>?_;obtain⟨w',hrun,h1,h2⟩:=h.put ht hk k hn y;unfold Oper.wp;simp[execOp,hop,hm,hx,hy,hrun,Result.andThen];exact hK' _ _ (hK w' h1 h2)
theorem nO(hg:o.guard=U)(mm x:Operand)(t:TypeId)(hop:o.op=Op.lookup t mm x true)(kt e:TypeId)(ht:P.underlying t=O (.map kt e))(hk:P.underlying kt=O .string)(z:R)(hz:(zeroValue e).run P w=.ok z w)
 (hm:a.eval mm=.map (O b))(h:cS w b l)(k:BA0)(hx:a.eval x=.string k)(hK:wpList P ops Q rest (a.put o.dst (.tuple #[(fJ k l).getD z,.bool (fJ k l).isSome])) w):wpList P ops Q (o::rest) a w:=by
 refine wpList_plain hg λ K' hK'=>?_;have hrun:=h.look_ok ht hk hz k;unfold Oper.wp;simp[execOp,hop,hm,hx,hrun,Result.andThen];exact hK' _ _ hK
theorem Fq(hg:o.guard=U)(mm x v:Operand)(t:TypeId)(hop:o.op=Op.mapUpdate t mm x v)(kt e:TypeId)(ht:P.underlying t=O (.map kt e))(hk:P.underlying kt=O .string)
 (hm:a.eval mm=.map (O b))(h:cS w b l)(k:BA0)(hx:a.eval x=.string k)(hn:fJ k l=U)(y:R)(hy:a.eval v=y)
 (hK:∀w',cS w' b (l++[(k,y)])->Only (λ g=>g=b) w w'->wpList P ops Q rest (a.put o.dst undef) w'):wpList P ops Q (o::rest) a w:=by
 refine wpList_plain hg λ K' hK'=>?_;obtain⟨w',hrun,h1,h2⟩:=h.put ht hk k hn y;unfold Oper.wp;simp[execOp,hop,hm,hx,hy,hrun,Result.andThen];exact hK' _ _ (hK w' h1 h2)
end
end
section
open Go.RowKit
theorem fK{w:agb}{b:Nat}{C C':Array R}{t t':TypeId}(h:Bk w b C t)(h':Bk w b C' t'):t=t':=by have :=aO (h.symm.trans h');injection this
section
variable{α:Type}{T:Ty α}{E E':TypeId->Prop}{rb base:Nat}{X X':agb}{cs:List R}{x:α}{e:TypeId}{v:R}{xs:List α}
theorem gN{w:agb}{base:Nat}{e:TypeId}{size:Nat}{v:R}{n:Nat}{xs:List R}(h:w.ownsRow base e size v n xs){g:Nat}(hg:v.ownBlock=O g):∃C,Bk w g C e:=by
 obtain⟨_,⟨rfl,_⟩|⟨g',cap,cur,rfl,_,h2,_⟩⟩:=h
 · simp[Value.ownBlock] at hg
 · simp only[Value.ownBlock,cQ] at hg
   subst hg;exact⟨cur,h2⟩
end
section
variable{P:Program}{ops:Array Oper}{rest:List Oper}{o:Oper}{a:Act}{Q:lC}
variable{α:Type}{T:Ty α}{E:TypeId->Prop}{rb base:Nat}{X:agb}{e:TypeId}{v:R}{xs:List α}
end
end
section
open Go.Shelf
def Tryz.zU:Go.Shelf.Ren:=⟨λ |169=>85|n=>n,λ |70=>197|9=>9|0=>0|72=>200|37=>198|127=>286|3=>3|5=>5|n=>n,λ |n=>n⟩
theorem Tryz.Np:Go.Proofs.Lays.n169 prog Tryz.zU:={
 mixed:=aV
 f169:=func85.trans (congrArg O aV)
 t0:=nH
 a0:=Tryz.isAgg0
 z0:=Tryz.sizeOf0
 v0:=Tryz.zeroValue0
 t3:=aJ
 a3:=Tryz.isAgg3
 z3:=Tryz.sizeOf3
 v3:=Tryz.zeroValue3
 t9:=bn
 a9:=Tryz.isAgg9
 z9:=Tryz.sizeOf9
 v9:=Tryz.zeroValue9
 t37:=o7
 a37:=Tryz.isAgg198
 z37:=Tryz.sizeOf198
 v37:=Tryz.zeroValue198
 t70:=underlying197
 a70:=Tryz.isAgg197
 z70:=Tryz.sizeOf197
 v70:=Tryz.zeroValue197
 t72:=underlying200
 a72:=Tryz.isAgg200
 z72:=Tryz.sizeOf200
 v72:=Tryz.zeroValue200
 t127:=underlying286
 a127:=Tryz.isAgg286
 z127:=Tryz.sizeOf286
 v127:=Tryz.zeroValue286}
theorem Tryz.qo:Builder.Extra prog Tryz.zU:={
 sizeBuilder:=aV
 liesBuilder:=aV
 t5:=nI
 a5:=Tryz.isAgg5
 z5:=Tryz.sizeOf5
 v5:=Tryz.zeroValue5
 infoByte:=aV
 cellsByte:=aV
 sizeByte:=aV
 neB5:=cj}
open Go.RowKit in
theorem Tryz.Builder_String_any(B b:Nat)(l:List UInt8)(w:agb)(h:Lib.IsBuilder 200 5 B b (Lib.byteCells l) w)(Rv:B<=w.heap.size):
 Calls prog 85 #[M (O ⟨b,0,U⟩)] w λ e w'=>e=.returned (.string ⟨l.toArray⟩)/\Below B w w':=Any.Builder_String_any Tryz.Np Tryz.qo B b l w h Rv
def Tryz.IW:Go.Shelf.Ren:=⟨λ |137=>210|217=>219|266=>230|n=>n,λ |9=>9|5=>5|3=>3|n=>n,λ |n=>n⟩
theorem Tryz.Wp:Go.Proofs.Lays.n137 prog Tryz.IW:={
 mixed:=aV
 f137:=func210.trans (congrArg O aV)
 f217:=func219.trans (congrArg O aV)
 f266:=func230.trans (congrArg O aV)
 t3:=aJ
 a3:=Tryz.isAgg3
 z3:=Tryz.sizeOf3
 v3:=Tryz.zeroValue3
 t5:=nI
 a5:=Tryz.isAgg5
 z5:=Tryz.sizeOf5
 v5:=Tryz.zeroValue5
 t9:=bn
 a9:=Tryz.isAgg9
 z9:=Tryz.sizeOf9
 v9:=Tryz.zeroValue9}
open Go.RowKit in
theorem Tryz.strings_IndexByte(s:BA0)(c:Int)(w:agb):
 Calls prog 210 #[.string s,.int .u8 c] w λ e w'=>e=.returned (I J (Lib.indexByte s.data.toList c.toNat.toUInt8))/\w'=w:=Any.strings_IndexByte Tryz.Wp s c w
open Go.RowKit in
theorem Tryz.Builder_String_any_k(B b:Nat)(l:List UInt8)(w:agb)(h:Lib.IsBuilderF 200 5 B b (Lib.byteCells l) w)(Rv:B<=w.heap.size):
 Calls prog 85 #[M (O ⟨b,0,U⟩)] w λ e w'=>e=.returned (.string ⟨l.toArray⟩)/\(Lib.IsBuilderF 200 5 B b (Lib.byteCells l) w'/\Below B w w'/\Lib.OthersKept 5 (O b) w w'):=Any.Builder_String_any_k Tryz.Np Tryz.qo B b l w h Rv
def Tryz.IX:Go.Shelf.Ren:=⟨λ |172=>189|244=>211|245=>212|247=>220|279=>221|280=>222|281=>223|282=>224|287=>231|316=>232|171=>83|205=>233|321=>236|322=>237|243=>159|246=>195|283=>213|284=>214|285=>215|286=>216|129=>170|317=>225|318=>226|319=>227|320=>228|337=>234|338=>235|n=>n,λ |9=>9|3=>3|75=>202|76=>203|4=>4|5=>5|167=>339|37=>198|0=>0|85=>340|2=>2|168=>342|53=>297|175=>351|46=>210|210=>355|127=>286|145=>360|143=>358|21=>21|171=>332|173=>334|212=>347|51=>295|20=>20|213=>348|232=>361|233=>362|80=>207|n=>n,λ |15=>1|16=>2|17=>0|18=>4|19=>5|n=>n⟩
theorem Tryz.Wq:Go.Proofs.Lays.n172 prog Tryz.IX:={
 mixed:=aV
 f129:=func170.trans (congrArg O aV)
 f171:=func83.trans (congrArg O aV)
 f172:=func189.trans (congrArg O aV)
 f205:=func233.trans (congrArg O aV)
 f243:=func159.trans (congrArg O aV)
 f244:=func211.trans (congrArg O aV)
 f245:=func212.trans (congrArg O aV)
 f246:=func195.trans (congrArg O aV)
 f247:=func220.trans (congrArg O aV)
 f279:=func221.trans (congrArg O aV)
 f280:=func222.trans (congrArg O aV)
 f281:=func223.trans (congrArg O aV)
 f282:=func224.trans (congrArg O aV)
 f283:=func213.trans (congrArg O aV)
 f284:=func214.trans (congrArg O aV)
 f285:=func215.trans (congrArg O aV)
 f286:=func216.trans (congrArg O aV)
 f287:=func231.trans (congrArg O aV)
 f316:=func232.trans (congrArg O aV)
 f317:=func225.trans (congrArg O aV)
 f318:=func226.trans (congrArg O aV)
 f319:=func227.trans (congrArg O aV)
 f320:=func228.trans (congrArg O aV)
 f321:=func236.trans (congrArg O aV)
 f322:=func237.trans (congrArg O aV)
 f337:=func234.trans (congrArg O aV)
 f338:=func235.trans (congrArg O aV)
 t0:=nH
 a0:=Tryz.isAgg0
 z0:=Tryz.sizeOf0
 v0:=Tryz.zeroValue0
 t2:=underlying2
 a2:=Tryz.isAgg2
 z2:=Tryz.sizeOf2
 v2:=Tryz.zeroValue2
 t3:=aJ
 a3:=Tryz.isAgg3
 z3:=Tryz.sizeOf3
 v3:=Tryz.zeroValue3
 t4:=dW
 a4:=Tryz.isAgg4
 z4:=Tryz.sizeOf4
 v4:=Tryz.zeroValue4
 t5:=nI
 a5:=Tryz.isAgg5
 z5:=Tryz.sizeOf5
 v5:=Tryz.zeroValue5
 t9:=bn
 a9:=Tryz.isAgg9
 z9:=Tryz.sizeOf9
 v9:=Tryz.zeroValue9
 t20:=vo
 a20:=Tryz.isAgg20
 z20:=Tryz.sizeOf20
 v20:=Tryz.zeroValue20
 t21:=underlying21
 a21:=Tryz.isAgg21
 z21:=Tryz.sizeOf21
 v21:=Tryz.zeroValue21
 t37:=o7
 a37:=Tryz.isAgg198
 z37:=Tryz.sizeOf198
 v37:=Tryz.zeroValue198
 t46:=underlying210
 a46:=Tryz.isAgg210
 z46:=Tryz.sizeOf210
 v46:=Tryz.zeroValue210
 t51:=underlying295
 a51:=Tryz.isAgg295
 z51:=Tryz.sizeOf295
 v51:=Tryz.zeroValue295
 t53:=underlying297
 a53:=Tryz.isAgg297
 z53:=Tryz.sizeOf297
 v53:=Tryz.zeroValue297
 t75:=underlying202
 a75:=Tryz.isAgg202
 z75:=Tryz.sizeOf202
 v75:=Tryz.zeroValue202
 t76:=underlying203
 a76:=Tryz.isAgg203
 z76:=Tryz.sizeOf203
 v76:=Tryz.zeroValue203
 t85:=underlying340
 a85:=Tryz.isAgg340
 z85:=Tryz.sizeOf340
 v85:=Tryz.zeroValue340
 t127:=underlying286
 a127:=Tryz.isAgg286
 z127:=Tryz.sizeOf286
 v127:=Tryz.zeroValue286
 t143:=underlying358
 a143:=Tryz.isAgg358
 z143:=Tryz.sizeOf358
 v143:=Tryz.zeroValue358
 t145:=underlying360
 a145:=Tryz.isAgg360
 z145:=Tryz.sizeOf360
 v145:=Tryz.zeroValue360
 t167:=underlying339
 a167:=Tryz.isAgg339
 z167:=Tryz.sizeOf339
 v167:=Tryz.zeroValue339
 t168:=underlying342
 a168:=Tryz.isAgg342
 z168:=Tryz.sizeOf342
 v168:=Tryz.zeroValue342
 t171:=underlying332
 a171:=Tryz.isAgg332
 z171:=Tryz.sizeOf332
 v171:=Tryz.zeroValue332
 t173:=underlying334
 a173:=Tryz.isAgg334
 z173:=Tryz.sizeOf334
 v173:=Tryz.zeroValue334
 t175:=underlying351
 a175:=Tryz.isAgg351
 z175:=Tryz.sizeOf351
 v175:=Tryz.zeroValue351
 t210:=underlying355
 a210:=Tryz.isAgg355
 z210:=Tryz.sizeOf355
 v210:=Tryz.zeroValue355
 t212:=underlying347
 a212:=Tryz.isAgg347
 z212:=Tryz.sizeOf347
 v212:=Tryz.zeroValue347
 t213:=underlying348
 a213:=Tryz.isAgg348
 z213:=Tryz.sizeOf348
 t232:=underlying361
 a232:=Tryz.isAgg361
 z232:=Tryz.sizeOf361
 v232:=Tryz.zeroValue361
 t233:=underlying362
 a233:=Tryz.isAgg362
 z233:=Tryz.sizeOf362
 v233:=Tryz.zeroValue362
 g15:=aV
 g16:=aV
 g17:=aV
 g18:=aV
 g19:=aV}
open Go.RowKit in
theorem Tryz.strconv_Atoi(s:BA0)(n:Int)(hl:s.size<=18)(h:Lib.atoi s.data.toList=O n)(w:agb):
 Calls prog 189 #[.string s] w λ e w'=>e=.returned (.tuple #[I J n,.nilIface])/\∃t,w'=Lib.bytesWorld w 5 t:=Any.strconv_Atoi Tryz.Wq s n hl h w
def Tryz.Ws:Go.Shelf.Ren:=⟨λ |246=>195|283=>213|284=>214|285=>215|286=>216|129=>170|317=>225|318=>226|319=>227|320=>228|337=>234|338=>235|n=>n,λ |2=>2|3=>3|9=>9|4=>4|171=>332|0=>0|53=>297|37=>198|5=>5|173=>334|212=>347|51=>295|20=>20|213=>348|46=>210|232=>361|233=>362|n=>n,λ |17=>0|18=>4|19=>5|n=>n⟩
def Tryz.Wt:Go.Shelf.Ren:=⟨λ |243=>159|246=>195|283=>213|284=>214|285=>215|286=>216|129=>170|317=>225|318=>226|319=>227|320=>228|337=>234|338=>235|n=>n,λ |3=>3|9=>9|2=>2|4=>4|171=>332|0=>0|53=>297|37=>198|5=>5|173=>334|212=>347|51=>295|20=>20|213=>348|46=>210|232=>361|233=>362|n=>n,λ |17=>0|18=>4|19=>5|n=>n⟩
def Tryz.GA:Go.Shelf.Ren:=⟨λ |171=>83|243=>159|246=>195|283=>213|284=>214|285=>215|286=>216|129=>170|317=>225|318=>226|319=>227|320=>228|337=>234|338=>235|n=>n,λ |3=>3|9=>9|2=>2|4=>4|171=>332|0=>0|53=>297|37=>198|5=>5|173=>334|212=>347|51=>295|20=>20|213=>348|46=>210|232=>361|233=>362|n=>n,λ |17=>0|18=>4|19=>5|n=>n⟩
theorem Tryz.Rw:Go.Proofs.LaysM.n171 prog Tryz.GA:={
 mixed:=aV
 f129:=func170.trans (congrArg O aV)
 f171:=func83.trans (congrArg O aV)
 f243:=func159.trans (congrArg O aV)
 f246:=func195.trans (congrArg O aV)
 f283:=func213.trans (congrArg O aV)
 f284:=func214.trans (congrArg O aV)
 f285:=func215.trans (congrArg O aV)
 f286:=func216.trans (congrArg O aV)
 f317:=func225.trans (congrArg O aV)
 f318:=func226.trans (congrArg O aV)
 f319:=func227.trans (congrArg O aV)
 f320:=func228.trans (congrArg O aV)
 f337:=func234.trans (congrArg O aV)
 f338:=func235.trans (congrArg O aV)
 t0:=nH
 a0:=Tryz.isAgg0
 z0:=Tryz.sizeOf0
 v0:=Tryz.zeroValue0
 t2:=underlying2
 a2:=Tryz.isAgg2
 z2:=Tryz.sizeOf2
 v2:=Tryz.zeroValue2
 t3:=aJ
 a3:=Tryz.isAgg3
 z3:=Tryz.sizeOf3
 v3:=Tryz.zeroValue3
 t4:=dW
 a4:=Tryz.isAgg4
 z4:=Tryz.sizeOf4
 v4:=Tryz.zeroValue4
 t5:=nI
 a5:=Tryz.isAgg5
 z5:=Tryz.sizeOf5
 v5:=Tryz.zeroValue5
 t9:=bn
 a9:=Tryz.isAgg9
 z9:=Tryz.sizeOf9
 v9:=Tryz.zeroValue9
 t20:=vo
 a20:=Tryz.isAgg20
 z20:=Tryz.sizeOf20
 v20:=Tryz.zeroValue20
 t37:=o7
 a37:=Tryz.isAgg198
 z37:=Tryz.sizeOf198
 v37:=Tryz.zeroValue198
 t46:=underlying210
 a46:=Tryz.isAgg210
 z46:=Tryz.sizeOf210
 v46:=Tryz.zeroValue210
 t51:=underlying295
 a51:=Tryz.isAgg295
 z51:=Tryz.sizeOf295
 v51:=Tryz.zeroValue295
 t53:=underlying297
 a53:=Tryz.isAgg297
 z53:=Tryz.sizeOf297
 v53:=Tryz.zeroValue297
 t171:=underlying332
 a171:=Tryz.isAgg332
 z171:=Tryz.sizeOf332
 v171:=Tryz.zeroValue332
 t173:=underlying334
 a173:=Tryz.isAgg334
 z173:=Tryz.sizeOf334
 v173:=Tryz.zeroValue334
 t212:=underlying347
 a212:=Tryz.isAgg347
 z212:=Tryz.sizeOf347
 v212:=Tryz.zeroValue347
 t213:=underlying348
 a213:=Tryz.isAgg348
 z213:=Tryz.sizeOf348
 t232:=underlying361
 a232:=Tryz.isAgg361
 z232:=Tryz.sizeOf361
 v232:=Tryz.zeroValue361
 t233:=underlying362
 a233:=Tryz.isAgg362
 z233:=Tryz.sizeOf362
 v233:=Tryz.zeroValue362
 g17:=aV
 g18:=aV
 g19:=aV
 i0:=aV
 i2:=aV
 i3:=aV
 i4:=aV
 i5:=aV
 i9:=aV
 i20:=aV
 i37:=aV
 i46:=aV
 i51:=aV
 i53:=aV
 i171:=aV
 i173:=aV
 i212:=aV
 i232:=aV
 i233:=aV
 m17:=aV
 m18:=aV
 m19:=aV}
open Go.RowKit Go.Sort Go.Lib in
theorem Tryz.strconv_Itoa(n:Int)(h0: -9223372036854775808<=n)(h1:n<=9223372036854775807)(w:agb)(ah7:Lib.TabIs prog w "internal/strconv.uint64pow10" .u64 Lib.pow10Tab):
 Calls prog 83 #[I J n] w λ e w'=>e=.returned (.string ⟨(Lib.itoa n).toArray⟩)/\∃k os,w'=grow (w.drewN k) os:=Any.strconv_Itoa Tryz.Rw n h0 h1 w ah7
def Tryz.IZ:Go.Shelf.Ren:=⟨λ |189=>39|125=>87|257=>86|128=>169|129=>170|294=>160|295=>161|296=>162|297=>163|298=>164|299=>165|216=>166|300=>167|301=>168|328=>196|329=>197|330=>198|331=>199|332=>200|215=>201|343=>217|n=>n,λ |28=>117|3=>3|46=>210|0=>0|51=>295|53=>297|4=>4|183=>289|182=>288|131=>118|5=>5|9=>9|218=>321|222=>237|228=>336|229=>281|n=>n,λ |n=>n⟩
theorem Tryz.Nq:Go.Proofs.Lays.n189 prog Tryz.IZ:={
 mixed:=aV
 f125:=func87.trans (congrArg O aV)
 f128:=func169.trans (congrArg O aV)
 f129:=func170.trans (congrArg O aV)
 f189:=func39.trans (congrArg O aV)
 f215:=func201.trans (congrArg O aV)
 f216:=func166.trans (congrArg O aV)
 f257:=func86.trans (congrArg O aV)
 f294:=func160.trans (congrArg O aV)
 f295:=func161.trans (congrArg O aV)
 f296:=func162.trans (congrArg O aV)
 f297:=func163.trans (congrArg O aV)
 f298:=func164.trans (congrArg O aV)
 f299:=func165.trans (congrArg O aV)
 f300:=func167.trans (congrArg O aV)
 f301:=func168.trans (congrArg O aV)
 f328:=func196.trans (congrArg O aV)
 f329:=func197.trans (congrArg O aV)
 f330:=func198.trans (congrArg O aV)
 f331:=func199.trans (congrArg O aV)
 f332:=func200.trans (congrArg O aV)
 f343:=func217.trans (congrArg O aV)
 t0:=nH
 a0:=Tryz.isAgg0
 z0:=Tryz.sizeOf0
 v0:=Tryz.zeroValue0
 t3:=aJ
 a3:=Tryz.isAgg3
 z3:=Tryz.sizeOf3
 v3:=Tryz.zeroValue3
 t4:=dW
 a4:=Tryz.isAgg4
 z4:=Tryz.sizeOf4
 v4:=Tryz.zeroValue4
 t5:=nI
 a5:=Tryz.isAgg5
 z5:=Tryz.sizeOf5
 v5:=Tryz.zeroValue5
 t9:=bn
 a9:=Tryz.isAgg9
 z9:=Tryz.sizeOf9
 v9:=Tryz.zeroValue9
 t28:=zS
 a28:=Tryz.isAgg117
 z28:=Tryz.sizeOf117
 v28:=Tryz.zeroValue117
 t46:=underlying210
 a46:=Tryz.isAgg210
 z46:=Tryz.sizeOf210
 v46:=Tryz.zeroValue210
 t51:=underlying295
 a51:=Tryz.isAgg295
 z51:=Tryz.sizeOf295
 v51:=Tryz.zeroValue295
 t53:=underlying297
 a53:=Tryz.isAgg297
 z53:=Tryz.sizeOf297
 v53:=Tryz.zeroValue297
 t131:=underlying118
 a131:=Tryz.isAgg118
 z131:=Tryz.sizeOf118
 v131:=Tryz.zeroValue118
 t182:=underlying288
 a182:=Tryz.isAgg288
 z182:=Tryz.sizeOf288
 v182:=Tryz.zeroValue288
 t183:=underlying289
 a183:=Tryz.isAgg289
 z183:=Tryz.sizeOf289
 v183:=Tryz.zeroValue289
 t218:=underlying321
 a218:=Tryz.isAgg321
 z218:=Tryz.sizeOf321
 v218:=Tryz.zeroValue321
 t222:=underlying237
 a222:=Tryz.isAgg237
 z222:=Tryz.sizeOf237
 v222:=Tryz.zeroValue237
 t228:=underlying336
 a228:=Tryz.isAgg336
 z228:=Tryz.sizeOf336
 v228:=Tryz.zeroValue336
 t229:=underlying281
 a229:=Tryz.isAgg281
 z229:=Tryz.sizeOf281
 v229:=Tryz.zeroValue281}
open Go.Sort Go.RowKit in
theorem Tryz.slices_Sort_int(blk off cap:Nat)(zs:List Int)(w:agb)(hH:Holds (Value.int .i64) w blk off zs.toArray)(hblk:blk<w.heap.size)(hsz:zs.length<4611686018427387904):
 Calls prog 39 #[G (O ⟨blk,off,U⟩) zs.length cap] w λ e w'=>e=.returned (.tuple #[])/\∃n os,w'=grow (putRow (Value.int .i64) (Sort.ahead w n) blk off (zs.mergeSort λ x y=>decide (x<=y)).toArray) os:=Any.slices_Sort_int Tryz.Nq blk off cap zs w hH hblk hsz
def Tryz.EO:Go.Shelf.Ren:=⟨λ |20=>40|n=>n,λ |22=>117|3=>3|4=>4|0=>0|n=>n,λ |n=>n⟩
theorem Tryz.Ff:Go.Proofs.Lays2.n20 prog Tryz.EO:={
 mixed:=aV
 f20:=func40.trans (congrArg O aV)
 t0:=nH
 a0:=Tryz.isAgg0
 z0:=Tryz.sizeOf0
 v0:=Tryz.zeroValue0
 t3:=aJ
 a3:=Tryz.isAgg3
 z3:=Tryz.sizeOf3
 v3:=Tryz.zeroValue3
 t4:=dW
 a4:=Tryz.isAgg4
 z4:=Tryz.sizeOf4
 v4:=Tryz.zeroValue4
 t22:=zS
 a22:=Tryz.isAgg117
 z22:=Tryz.sizeOf117
 v22:=Tryz.zeroValue117
 i3:=aV}
open Go.RowKit Go.Lib Go.Sort in
theorem Tryz.slices_Compact_int(blk off cap:Nat)(zs:List Int)(w:agb)(hH:Holds (Value.int .i64) w blk off zs.toArray)(hsz:zs.length<=9223372036854775807)(u6:zs.length<=cap):
 Calls prog 40 #[G (O ⟨blk,off,U⟩) zs.length cap] w λ e w'=>e=.returned (G (O ⟨blk,off,U⟩) (Lib.compact zs).length cap)/\∃q,w'=putRow (Value.int .i64) (Sort.ahead w q) blk off (Lib.compact zs++List.replicate (zs.length - (Lib.compact zs).length) 0).toArray:=Any.slices_Compact_int Tryz.Ff blk off cap zs w hH hsz u6
open Go.RowKit Go.Lib Go.Sort in
theorem Tryz.slices_Compact_int_empty(a:dB)(cap:Nat)(w:agb):
 Calls prog 40 #[G a 0 cap] w λ e w'=>e=.returned (G a 0 cap)/\w'=w:=Any.slices_Compact_int_empty Tryz.Ff a cap w
open Go.RowKit Go.Sort in
theorem Tryz.slices_Sort_int_none(p:dB)(cap:Nat)(w:agb):
 Calls prog 39 #[G p 0 cap] w λ e w'=>e=.returned (.tuple #[])/\w'=w:=Any.slices_Sort_int_none Tryz.Nq p cap w
def Tryz.zV:Go.Shelf.Ren:=⟨λ |166=>82|240=>158|276=>194|n=>n,λ |0=>0|3=>3|4=>4|9=>9|20=>20|37=>198|70=>197|72=>200|75=>202|164=>318|80=>207|n=>n,λ |n=>n⟩
theorem Tryz.Nr:Go.Proofs.Lays.n166 prog Tryz.zV:={
 mixed:=aV
 f166:=func82.trans (congrArg O aV)
 f240:=func158.trans (congrArg O aV)
 f276:=func194.trans (congrArg O aV)
 t0:=nH
 a0:=Tryz.isAgg0
 z0:=Tryz.sizeOf0
 v0:=Tryz.zeroValue0
 t3:=aJ
 a3:=Tryz.isAgg3
 z3:=Tryz.sizeOf3
 v3:=Tryz.zeroValue3
 t4:=dW
 a4:=Tryz.isAgg4
 z4:=Tryz.sizeOf4
 v4:=Tryz.zeroValue4
 t9:=bn
 a9:=Tryz.isAgg9
 z9:=Tryz.sizeOf9
 v9:=Tryz.zeroValue9
 t20:=vo
 a20:=Tryz.isAgg20
 z20:=Tryz.sizeOf20
 v20:=Tryz.zeroValue20
 t37:=o7
 a37:=Tryz.isAgg198
 z37:=Tryz.sizeOf198
 v37:=Tryz.zeroValue198
 t70:=underlying197
 a70:=Tryz.isAgg197
 z70:=Tryz.sizeOf197
 v70:=Tryz.zeroValue197
 t72:=underlying200
 a72:=Tryz.isAgg200
 z72:=Tryz.sizeOf200
 v72:=Tryz.zeroValue200
 t75:=underlying202
 a75:=Tryz.isAgg202
 z75:=Tryz.sizeOf202
 v75:=Tryz.zeroValue202
 t164:=underlying318
 a164:=Tryz.isAgg318
 z164:=Tryz.sizeOf318
 v164:=Tryz.zeroValue318}
theorem Tryz.qp:Builder.Extra prog Tryz.zV:={
 sizeBuilder:=aV
 liesBuilder:=aV
 t5:=nI
 a5:=Tryz.isAgg5
 z5:=Tryz.sizeOf5
 v5:=Tryz.zeroValue5
 infoByte:=aV
 cellsByte:=aV
 sizeByte:=aV
 neB5:=cj}
open Go.RowKit in
theorem Tryz.Builder_WriteString(B b:Nat)(bs:List R)(s:BA0)(w:agb)(h:Lib.IsBuilder 200 5 B b bs w)(hlen:bs.length+s.size<=140737488355328)(Rv:B<=w.heap.size):
 Calls prog 82 #[M (O ⟨b,0,U⟩),.string s] w λ e w'=>e=.returned (.tuple #[I J s.size,.nilIface])/\(Lib.BuilderAt 200 5 B b (M (O ⟨b,0,U⟩)) (bs++Lib.strCells s) w'/\Below B w w'):=Any.Builder_WriteString Tryz.Nr Tryz.qp B b bs s w h hlen Rv
def Tryz.zW:Go.Shelf.Ren:=⟨λ |167=>84|240=>158|276=>194|n=>n,λ |0=>0|4=>4|5=>5|9=>9|20=>20|37=>198|70=>197|72=>200|75=>202|164=>318|80=>207|n=>n,λ |n=>n⟩
theorem Tryz.Wv:Go.Proofs.Lays.n167 prog Tryz.zW:={
 mixed:=aV
 f167:=func84.trans (congrArg O aV)
 f240:=func158.trans (congrArg O aV)
 f276:=func194.trans (congrArg O aV)
 t0:=nH
 a0:=Tryz.isAgg0
 z0:=Tryz.sizeOf0
 v0:=Tryz.zeroValue0
 t4:=dW
 a4:=Tryz.isAgg4
 z4:=Tryz.sizeOf4
 v4:=Tryz.zeroValue4
 t5:=nI
 a5:=Tryz.isAgg5
 z5:=Tryz.sizeOf5
 v5:=Tryz.zeroValue5
 t9:=bn
 a9:=Tryz.isAgg9
 z9:=Tryz.sizeOf9
 v9:=Tryz.zeroValue9
 t20:=vo
 a20:=Tryz.isAgg20
 z20:=Tryz.sizeOf20
 v20:=Tryz.zeroValue20
 t37:=o7
 a37:=Tryz.isAgg198
 z37:=Tryz.sizeOf198
 v37:=Tryz.zeroValue198
 t70:=underlying197
 a70:=Tryz.isAgg197
 z70:=Tryz.sizeOf197
 v70:=Tryz.zeroValue197
 t72:=underlying200
 a72:=Tryz.isAgg200
 z72:=Tryz.sizeOf200
 v72:=Tryz.zeroValue200
 t75:=underlying202
 a75:=Tryz.isAgg202
 z75:=Tryz.sizeOf202
 v75:=Tryz.zeroValue202
 t164:=underlying318
 a164:=Tryz.isAgg318
 z164:=Tryz.sizeOf318
 v164:=Tryz.zeroValue318}
theorem Tryz.xE:Builder.Extra prog Tryz.zW:={
 sizeBuilder:=aV
 liesBuilder:=aV
 t5:=nI
 a5:=Tryz.isAgg5
 z5:=Tryz.sizeOf5
 v5:=Tryz.zeroValue5
 infoByte:=aV
 cellsByte:=aV
 sizeByte:=aV
 neB5:=cj}
open Go.RowKit in
theorem Tryz.Builder_WriteByte(B b:Nat)(bs:List R)(c:Int)(w:agb)(h:Lib.IsBuilder 200 5 B b bs w)(hlen:bs.length+1<=140737488355328)(Rv:B<=w.heap.size):
 Calls prog 84 #[M (O ⟨b,0,U⟩),.int .u8 c] w λ e w'=>e=.returned .nilIface/\(Lib.BuilderAt 200 5 B b (M (O ⟨b,0,U⟩)) (bs++[.int .u8 c]) w'/\Below B w w'):=Any.Builder_WriteByte Tryz.Wv Tryz.xE B b bs c w h hlen Rv
end
section
open Go.RowKit
def ki{α:Type}(T:Ty α)(F:Nat->Prop)(X:agb)(cs:List R)(x:α):Prop:=
 (∀u∈cs,u.oneCell'=true)/\(∀g,F g->g<X.heap.size)/\∀X',X.heap.size<=X'.heap.size->(∀g,F g->X'.heap[g]?=X.heap[g]?)->T.rd X' X'.heap.size cs x
section
variable{α β:Type}{T:Ty α}{F F':Nat->Prop}{X X':agb}{cs:List R}{x:α}{e:TypeId}{v:R}{xs:List α}{base:Nat}
theorem ki.rd(h:ki T F X cs x):T.rd X X.heap.size cs x:=h.2.2 X (ah _) (λ _ _=>rfl)
theorem ki.only{S:Nat->Prop}(h:ki T F X cs x)(ho:Only S X X')(hS:∀g,S g->¬F g):ki T F X' cs x:=
 ⟨h.1,λ g hg=>dI (h.2.1 g hg) ho.size,λ X'' hz hk=>h.2.2 X'' (bm ho.size hz) (λ g hg=>(hk g hg).trans (ho.block g (h.2.1 g hg) (λ hs=>hS g hs hg)))⟩
theorem ki.below(h:ki T F X cs x)(hb:aZ X X'):ki T F X' cs x:=h.only (S:=λ _=>False) (aw hb) (λ _ h=>h.elim)
theorem ki.mono(h:ki T F X cs x)(hF:∀g,F g->F' g)(hl:∀g,F' g->g<X.heap.size):ki T F' X cs x:=
 ⟨h.1,hl,λ X' hz hk=>h.2.2 X' hz (λ g hg=>hk g (hF g hg))⟩
theorem ki.flat{B:Nat}(hT:Flat T)(h:T.rd X B cs x)(h1:∀u∈cs,u.oneCell'=true):ki T (λ _=>False) X cs x:=⟨h1,λ _ h=>h.elim,λ X' _ _=>hT h⟩
theorem ki.pair{S:Ty β}{c2:List R}{y:β}(h:ki T F X cs x)(k:ki S F X c2 y):ki (fy T S) F X (cs++c2) (x,y):=
 ⟨λ u hu=>(bV.1 hu).elim (h.1 u) (k.1 u),h.2.1,λ X' hz hk=>⟨cs,c2,rfl,h.2.2 X' hz hk,k.2.2 X' hz hk⟩⟩
def aey(v:R):Nat->Prop:=λ g=>v.ownBlock=O g
theorem ki.row{A:dB}{n c B:Nat}(hT:Flat T)(h:cH T e X base B (G A n c) xs):ki (eF T) (aey (G A n c)) X [G A n c] xs:=by
 obtain⟨A',c',e1,h1,h2⟩:=h.form;injection e1 with a1 a2 a3
 subst a1;subst a2;subst a3;refine⟨λ u hu=>by rw[aN] at hu;subst hu;rfl,λ g hg=>(h.lt g hg).2,λ X' hz hk=>⟨A,c,rfl,h1,h2,?_⟩⟩;obtain⟨css,q1,q2,q3⟩:=h
 have q3':X'.ownsRow base e T.n (G A xs.length c) xs.length css.flatten:=by refine⟨q3.1,q3.2.imp id ?_⟩;rintro⟨g,cap,cur,hv,hb,hg,hr⟩;exact⟨g,cap,cur,hv,hb,(hk g (by unfold aey;rw[hv];rfl)).trans hg,hr⟩
 have hl:cH T e X' base X'.heap.size (G A xs.length c) xs:=⟨css,q1,λ i a b=>hT (q2 i a b),q3'⟩;exact hl.elems (ah _) (ah _)
def mz(T:Ty α)(e:TypeId)(F:Nat->Prop)(X:agb)(base:Nat)(v:R)(xs:List α):Prop:=
 ∃css:List (List R),css.length=xs.length/\X.ownsRow base e T.n v xs.length css.flatten/\∀i(h1:i<xs.length)(h2:i<css.length),ki T F X css[i] xs[i]
theorem mz.nil:mz T e F X base (.slice .none 0 0) ([]:List α):=⟨[],rfl,uK,λ i h=>absurd h bY⟩
theorem mz.form(h:mz T e F X base v xs):∃A c,v=G A xs.length c/\xs.length<=c/\c<=maxLen:=by obtain⟨css,_,h,_⟩:=h;exact fM h
theorem mz.lt(h:mz T e F X base v xs):∀g,v.ownBlock=O g->base<=g/\g<X.heap.size:=λ g hg=>by obtain⟨css,_,h,_⟩:=h;exact jd h hg
theorem mz.typed(h:mz T e F X base v xs){g:Nat}(hg:v.ownBlock=O g):∃C,Bk X g C e:=by obtain⟨css,_,h,_⟩:=h;exact gN h hg
theorem mz.only{S:Nat->Prop}(h:mz T e F X base v xs)(ho:Only S X X')(hS:∀g,S g->¬F g)(hn:∀g,v.ownBlock=O g->¬S g):mz T e F X' base v xs:=by obtain⟨css,h1,h2,h3⟩:=h;exact⟨css,h1,ee h2 ho hn,λ i a b=>(h3 i a b).only ho hS⟩
theorem mz.below(h:mz T e F X base v xs)(hb:aZ X X'):mz T e F X' base v xs:=
 h.only (S:=λ _=>False) (aw hb) (λ _ h=>h.elim) (λ _ _ h=>h)
theorem mz.mono(h:mz T e F X base v xs)(hF:∀g,F g->F' g)(hl:∀g,F' g->g<X.heap.size):mz T e F' X base v xs:=by obtain⟨css,h1,h2,h3⟩:=h;exact⟨css,h1,h2,λ i a b=>(h3 i a b).mono hF hl⟩
theorem mz.elems{A:dB}{n c:Nat}(h:mz T e F X base (G A n c) xs):ic T X A xs:=by
 obtain⟨css,h1,h2,h3⟩:=h;rcases gO xs.length with h0|h0
 · have :xs=[]:=fp h0
   subst this;exact cG.nil
 · have hn:n=xs.length:=by
    obtain⟨A',c',e1,_,_⟩:=fM h2;injection e1
   subst hn;obtain⟨g,cur,rfl,hg1,hg2,_⟩:=yO h2 h0;exact yP h2 hg2 h1 λ i hi=>(h3 i hi ar).rd
end
section
variable{P:Program}{ops:Array Oper}{rest:List Oper}{o:Oper}{a:Act}{Q:lC}
variable{α:Type}{T:Ty α}{F:Nat->Prop}{base:Nat}{X:agb}{e:TypeId}{v:R}{xs:List α}
theorem ym(hgd:o.guard=U)(s x:Operand)(t:TypeId)(ho:o.op=.call {callee:=.builtin .append,args:=#[s,x],argTypes:=#[t,t]})(bytes:Nat)
 (ht:P.underlying t=O (.slice e))(hi:(P.info? e).map (λ i=>(i.size,i.bytes,i.zero.map λ z=>z.cells.size))=O (T.n,bytes,O T.n))(hsz:0<T.n)
 (hs:a.eval s=v)(hown:mz T e F X base v xs)(hv:∀g,v.ownBlock=O g->¬F g)(hF:∀g,F g->g<X.heap.size)(A:dB)(c:Nat)(cs:List R)(q:α)(hx:a.eval x=G A 1 c)(hq:ki T F X cs q)(hsrc:Cn X A 1 cs)
 (h63:xs.length+1<=maxLen)(hbytes:(xs.length+1)*bytes<=140737488355328)(hbase:base<=X.heap.size)
 (h:∀A' c' w',mz T e F w' base (G A' (xs.length+1) c') (xs++[q])->Below base X w'->Only (λ g=>v.ownBlock=O g) X w'->(∀g,(G A' (xs.length+1) c').ownBlock=O g->¬F g)->
  (∀g,(G A' (xs.length+1) c').ownBlock=O g->v.ownBlock=O g\/X.heap.size<=g)->wpList P ops Q rest (a.put o.dst (G A' (xs.length+1) c')) w'):wpList P ops Q (o::rest) a X:=by
 obtain⟨css,q1,q2,q3⟩:=hown;obtain⟨i,z,i1,i2,i3,i4,i5⟩:=kU hi;have hlc:cs.length=T.n:=T.len hq.rd;refine iG hgd s x t ho base e i z T.n bytes ht i1 i2 i3 i4 i5 hsz xs.length css.flatten hs q2 A 1 c cs hx ar hsrc hq.1 h63 hbytes hbase (xs.length+1) (css++[cs]).flatten rfl bY ?_;intro A' c' w' g1 g2 g3 g4;have ho:Only (λ g=>v.ownBlock=O g) X w':=(Only.refl _ _).grown g3 (λ g e=>.inl e)
 have AX:∀g,(G A' (xs.length+1) c').ownBlock=O g->v.ownBlock=O g\/X.heap.size<=g:=λ g hg=>by
  have hm:A'.map (·.block)=O g:=by cases A' with
   |none=>simp[Value.ownBlock] at hg
   |some a=>simpa [Value.ownBlock] using hg
  rcases g4 with g4|g4
  · exact .inl (g4.symm.trans hm)
  · right
    rw[hm] at g4;have :=aO g4;omega
 refine h A' c' w' ⟨css++[cs],by simp[q1],by simpa using g1,λ i a1 a2=>?_⟩ g2 ho (λ g hg hf=>?_) AX
 · by_cases hlt:i<xs.length
   · rw[fO ar,fO ar]
     exact(q3 i hlt ar).only ho hv
   · have :i=xs.length:=by simp at a1;omega
     subst this;rw[fG ar,fG ar];simpa [q1] using hq.only ho hv
 · rcases AX g hg with k|k
   · exact hv g k hf
   · have :=hF g hf
     omega
end
end
section
open Go.RowKit Go.Maps
def Dp{κ:Type}[DecidableEq κ](f:κ->Option Int)(c:κ)(v:Int):κ->Option Int:=λ x=>if x=c then O v else f x
section
variable{κ:Type}[DecidableEq κ]
theorem PY(f:κ->Option Int)(c:κ)(v:Int):Dp f c v c=O v:=if_pos rfl
theorem Mh(f:κ->Option Int){c x:κ}(v:Int)(h:x≠c):Dp f c v x=f x:=if_neg h
end
def jQ{κ:Type}(lit:κ->Lit)(P:Program)(k e:TypeId)(w:agb)(b m:Nat)(f:κ->Option Int):Prop:=
 ∃aak:DataW Unit,w.ownsMap P k (plainElem P e) b m aak/\size aak=m/\∀c,has aak (lit c)=(f c).isSome/\aak.atKey (lit c) (.lit (.int .i64 0))=.lit (.int .i64 ((f c).getD 0))
section
variable{κ:Type}{lit:κ->Lit}{P:Program}{k e t:TypeId}{w w':agb}{b m:Nat}{f:κ->Option Int}
theorem jQ.lt(h:jQ lit P k e w b m f):b<w.heap.size:=by obtain⟨aak,h,_⟩:=h;exact h.lt
theorem jQ.only{S:Nat->Prop}(h:jQ lit P k e w b m f)(ho:Only S w w')(hn:¬S b):jQ lit P k e w' b m f:=by obtain⟨aak,h1,h2,h3⟩:=h;refine⟨aak,?_,h2,h3⟩;have hb:=h1.lt;obtain⟨es,clock,hh,r⟩:=h1;exact⟨es,clock,(ho.block b hb hn).trans hh,r⟩
theorem jQ.below(h:jQ lit P k e w b m f)(hb:aZ w w'):jQ lit P k e w' b m f:=h.only (aw (S:=λ _=>False) hb) (λ h=>h)
theorem jQ.new(lit:κ->Lit)(P:Program)(k e:TypeId)(w:agb):jQ lit P k e (w.alloc (.map #[] 0)) w.heap.size 0 (λ _=>U):=
 ⟨.map [],World.ownsMap_made w P k _,rfl,λ _=>⟨rfl,rfl⟩⟩
theorem jQ.look(h:jQ lit P k e w b m f)(K:Keyed P k)(ht:P.underlying t=O (.map k e))(he:P.underlying e=O (.int .i64))(hz:(zeroValue e).run P w=.ok (I J 0) w){key:R}{c:κ}(hkey:keyOf P k key=O (lit c)):
 (Instr.lookup t (.map (O b)) key false).run P w=.ok (I J ((f c).getD 0)) w:=by
 obtain⟨aak,h1,_,h3⟩:=h;obtain⟨v,ps,hrun,hv⟩:=h1.lookup K ht hz (plainElem_int he (a:=0) cj) hkey;obtain⟨x,rfl,hx,_⟩:=plainElem_int_inv he hv;rw[hrun];have :=(congrArg Prod.fst hx);simp only[(h3 c).2,DataW.lit.injEq,Lit.int.injEq,true_and] at this;rw[this]
theorem jQ.look_ok(h:jQ lit P k e w b m f)(K:Keyed P k)(ht:P.underlying t=O (.map k e))(he:P.underlying e=O (.int .i64))(hz:(zeroValue e).run P w=.ok (I J 0) w){key:R}{c:κ}(hkey:keyOf P k key=O (lit c)):
 (Instr.lookup t (.map (O b)) key true).run P w=.ok (.tuple #[I J ((f c).getD 0),.bool (f c).isSome]) w:=by
 obtain⟨aak,h1,_,h3⟩:=h;obtain⟨v,ps,hrun,hv⟩:=h1.look_ok K ht hz (plainElem_int he (a:=0) cj) hkey;obtain⟨x,rfl,hx,_⟩:=plainElem_int_inv he hv;rw[hrun,(h3 c).1];have :=(congrArg Prod.fst hx);simp only[(h3 c).2,DataW.lit.injEq,Lit.int.injEq,true_and] at this;rw[this]
theorem jQ.store[DecidableEq κ](h:jQ lit P k e w b m f)(K:Keyed P k)(ht:P.underlying t=O (.map k e))(he:P.underlying e=O (.int .i64))(AY:∀x y,lit x=lit y->x=y)(hm:m<maxLen){key:R}{c:κ}(hkey:keyOf P k key=O (lit c))(v:Int)(hv:(Lit.int .i64 v).wf=true):
 ∃w',(Instr.mapUpdate t (.map (O b)) key (I J v)).run P w=.ok () w'/\jQ lit P k e w' b (if(f c).isSome then m else m+1) (Dp f c v)/\Only (λ g=>g=b) w w':=by
 obtain⟨aak,h1,h2,h3⟩:=h;obtain⟨w',hrun,h4,h5⟩:=h1.update K ht hm hkey (plainElem_int he hv);have hk:=K.key hkey;have hsz:=size_put (h1.tidy K) (k:=lit c) (.lit (.int .i64 v));rw[(h3 c).1,h2] at hsz;refine⟨w',hrun,⟨aak.put (lit c) (.lit (.int .i64 v)),?_,hsz,λ x=>?_⟩,?_⟩
 · obtain⟨es,clock,hb,F,hs,e⟩:=h4
   refine⟨es,clock,hb,F,?_,e⟩
   have :size (aak.put (lit c) (.lit (.int .i64 v)))=es.size:=by rw[e];simp[size,Go.length_sorted]
   omega
 · by_cases hx:x=c
   · subst hx
     rw[PY];exact⟨has_put_same h1.isMap hk _,atKey_put_same h1.isMap hk _ _⟩
   · have hl:lit x≠lit c:=λ e=>hx (AY _ _ e)
     rw[Mh f v hx,has_put_other hl,atKey_put_other hl];exact h3 x
 · exact(Only.refl (λ g=>g=b) w).grown h5 (λ g hg=>.inl (by simpa using hg.symm))
end
section
variable{κ:Type}{lit:κ->Lit}{P:Program}{w:agb}{ops:Array Oper}{rest:List Oper}{o:Oper}{a:Act}{Q:lC}{b m:Nat}{f:κ->Option Int}
theorem Dq(hg:o.guard=U)(mm x:Operand)(t:TypeId)(hop:o.op=Op.lookup t mm x false)(k e:TypeId)(K:Keyed P k)(ht:P.underlying t=O (.map k e))(he:P.underlying e=O (.int .i64))(hz:(zeroValue e).run P w=.ok (I J 0) w)
 (hm:a.eval mm=.map (O b))(h:jQ lit P k e w b m f)(key:R)(c:κ)(hx:a.eval x=key)(hkey:keyOf P k key=O (lit c))(hK:wpList P ops Q rest (a.put o.dst (I J ((f c).getD 0))) w):wpList P ops Q (o::rest) a w:=by
 refine wpList_plain hg λ K' hK'=>?_;have hrun:=h.look K ht he hz hkey;unfold Oper.wp;simp[execOp,hop,hm,hx,hrun,Result.andThen];exact hK' _ _ hK
theorem kv(hg:o.guard=U)(mm x:Operand)(t:TypeId)(hop:o.op=Op.lookup t mm x true)(k e:TypeId)(K:Keyed P k)(ht:P.underlying t=O (.map k e))(he:P.underlying e=O (.int .i64))(hz:(zeroValue e).run P w=.ok (I J 0) w)
 (hm:a.eval mm=.map (O b))(h:jQ lit P k e w b m f)(key:R)(c:κ)(hx:a.eval x=key)(hkey:keyOf P k key=O (lit c))(hK:wpList P ops Q rest (a.put o.dst (.tuple #[I J ((f c).getD 0),.bool (f c).isSome])) w):wpList P ops Q (o::rest) a w:=by
 refine wpList_plain hg λ K' hK'=>?_;have hrun:=h.look_ok K ht he hz hkey;unfold Oper.wp;simp[execOp,hop,hm,hx,hrun,Result.andThen];exact hK' _ _ hK
theorem qH[DecidableEq κ](hg:o.guard=U)(mm x v:Operand)(t:TypeId)(hop:o.op=Op.mapUpdate t mm x v)(k e:TypeId)(K:Keyed P k)(ht:P.underlying t=O (.map k e))(he:P.underlying e=O (.int .i64))(AY:∀x y,lit x=lit y->x=y)(hlen:m<maxLen)
 (hm:a.eval mm=.map (O b))(h:jQ lit P k e w b m f)(key:R)(c:κ)(hx:a.eval x=key)(hkey:keyOf P k key=O (lit c))(y:Int)(hy:(Lit.int .i64 y).wf=true)(hv:a.eval v=I J y)
 (hK:∀w',jQ lit P k e w' b (if(f c).isSome then m else m+1) (Dp f c y)->Only (λ g=>g=b) w w'->wpList P ops Q rest (a.put o.dst undef) w'):wpList P ops Q (o::rest) a w:=by
 refine wpList_plain hg λ K' hK'=>?_;obtain⟨w',hrun,h1,h2⟩:=h.store K ht he AY hlen hkey y hy;unfold Oper.wp;simp[execOp,hop,hm,hx,hv,hrun,Result.andThen];exact hK' _ _ (hK w' h1 h2)
end
end
section
open Go.RowKit Go.Shelf
def PV(l:List Int):List Int:=l.mergeSort λ x y=>decide (x<=y)
def N5(l:List Int):List Int:=Lib.compact (PV l)
theorem N6(l:List Int):(PV l).length=l.length:=List.length_mergeSort ..
theorem N7{l:List Int}{x:Int}:x∈PV l↔x∈l:=List.mem_mergeSort
theorem G8(l:List Int):(PV l).Pairwise (· <= ·):=by have h:=List.pairwise_mergeSort (le:=λ x y:Int=>decide (x<=y)) (λ a b c h1 h2=>by simp at *;omega) (λ a b=>by simp;omega) l;exact h.imp (λ h=>by simpa using h)
theorem Tl(d:Array Int)(hd:d.toList.Pairwise (· <= ·)):∀m,m<=d.size->(Lib.compactUpTo d m).Pairwise (· < ·)/\(∀x,x∈Lib.compactUpTo d m↔∃j,j<m/\d[j]! =x)/\(∀x∈Lib.compactUpTo d m,x<=d[m - 1]!)
 |0,_=>⟨by simp[Lib.compactUpTo],λ x=>by simp[Lib.compactUpTo],λ x h=>by simp[Lib.compactUpTo] at h⟩
 |m+1,hm=>by
  obtain⟨h1,h2,h3⟩:=Tl d hd m ar
  have hle:d[m - 1]!<=d[m]!:=by
   rw[getElem!_pos d (m - 1) ar,getElem!_pos d m ar];rcases gO m with rfl|h0
   · exact Int.le_refl _
   · have :=eG.1 hd (m - 1) m gW gW ar
     simpa using this
  rw[Lib.compactUpTo_succ];show _/\_/\∀x∈_,x<=d[m]!;by_cases hk:Lib.keeps d m=true
  · rw[if_pos hk]
    have hlt:∀x∈Lib.compactUpTo d m,x<d[m]!:=λ x hx=>by
     have h4:=h3 x hx;obtain⟨j,hj,_⟩:=(h2 x).1 hx
     have hne:d[m]!≠d[m - 1]!:=by
      unfold Lib.keeps at hk;simp only[decide_eq_true_eq] at hk;rcases hk with hk|hk
      · omega
      · exact hk
     omega
    refine⟨List.pairwise_append.2 ⟨h1,List.pairwise_singleton _ _,λ a ha b hb=>by rw[aN.1 hb];exact hlt a ha⟩,λ x=>?_,λ x hx=>?_⟩
    · rw[bV,h2,aN]
      constructor
      · rintro(⟨j,hj,e⟩|rfl)
        · exact⟨j,ar,e⟩
        · exact⟨m,ar,rfl⟩
      · rintro⟨j,hj,e⟩
        by_cases h:j<m
        · exact .inl ⟨j,h,e⟩
        · obtain rfl:j=m:=ar
          exact .inr e.symm
    · rcases bV.1 hx with hx|hx
      · exact Int.le_of_lt (hlt x hx)
      · rw[aN.1 hx];exact Int.le_refl _
  · rw[if_neg hk,dU]
    have he:0<m/\d[m]! =d[m - 1]!:=by unfold Lib.keeps at hk;simp only[decide_eq_true_eq,not_or,Decidable.not_not] at hk;exact⟨ar,hk.2⟩
    refine⟨h1,λ x=>?_,λ x hx=>by rw[he.2];exact h3 x hx⟩;rw[h2];constructor
    · rintro⟨j,hj,e⟩
      exact⟨j,ar,e⟩
    · rintro⟨j,hj,e⟩
      by_cases h:j<m
      · exact⟨j,h,e⟩
      · obtain rfl:j=m:=ar
        exact⟨j - 1,ar,by rw[<-he.2];exact e⟩
theorem sK(l:List Int):(N5 l).Pairwise (· < ·)/\∀x,x∈N5 l↔x∈l:=by
 obtain⟨h1,h2,_⟩:=Tl (PV l).toArray (by simpa using G8 l) (PV l).length bY;refine⟨h1,λ x=>(h2 x).trans ?_⟩;rw[<-N7,bo];constructor
 · rintro⟨j,hj,e⟩
   exact⟨j,hj,by rw[getElem!_pos _ j (by simpa using hj)] at e;simpa using e⟩
 · rintro⟨j,hj,e⟩
   exact⟨j,hj,by rw[getElem!_pos _ j (by simpa using hj)];simpa using e⟩
theorem B7(l:List Int):(N5 l).length<=l.length:=by have :=Lib.compact_length_le (PV l);rw[N6] at this;exact this
theorem Tm{l:List Int}{lo:Int}(h:lo∈l)(hl:∀x∈l,lo<=x):(N5 l).head?=O lo:=by
 obtain⟨h1,h2⟩:=sK l;cases e:N5 l with
 |nil=>have :=(h2 lo).2 h;rw[e] at this;exact absurd this bY
 |cons a r=>
  rw[e] at h1 h2;have ha:=hl a ((h2 a).1 bY);rcases aR.1 ((h2 lo).2 h) with rfl|hm
  · rfl
  · have :=List.rel_of_pairwise_cons h1 hm
    omega
theorem rP:∀{l m:List Int},l.Pairwise (· < ·)->(∀x∈l,x∈m)->l.length<=m.length
 |[],_,_,_=>ak _
 |a::l,m,h,hs=>by
  have ha:=hs a bY
  have h1:=rP (l:=l) (m:=m.erase a) (j8.1 h).2 (λ x hx=>by
   have hne:x≠a:=λ e=>by have :=List.rel_of_pairwise_cons h hx;omega
   exact(List.mem_erase_of_ne hne).2 (hs x (by simp[hx])))
  rw[List.length_erase_of_mem ha] at h1;have :=List.length_pos_of_mem ha;simp;omega
theorem N8:∀{l m:List Int},l.Pairwise (· < ·)->m.Pairwise (· < ·)->(∀x,x∈l↔x∈m)->l=m
 |[],[],_,_,_=>rfl
 |[],b::m,_,_,h=>absurd ((h b).2 bY) bY
 |a::l,[],_,_,h=>absurd ((h a).1 bY) bY
 |a::l,b::m,h1,h2,h=>by
  have k1:=j8.1 h1;have k2:=j8.1 h2
  have e:a=b:=by
   rcases aR.1 ((h a).1 bY) with e|e
   · exact e
   · rcases aR.1 ((h b).2 bY) with e'|e'
     · exact e'.symm
     · have :=k1.1 b e'
       have :=k2.1 a e;omega
  subst e
  rw[N8 k1.2 k2.2 (λ x=>⟨λ hx=>by
   rcases aR.1 ((h x).1 (by simp[hx])) with e|e
   · have :=k1.1 x hx;omega
   · exact e,λ hx=>by
   rcases aR.1 ((h x).2 (by simp[hx])) with e|e
   · have :=k2.1 x hx;omega
   · exact e⟩)]
theorem sL{e:TypeId}{X:agb}{base B:Nat}{v:R}{zs:List Int}(h:cH dr e X base B v zs):X.ownsRow base e 1 v zs.length (zs.map (Value.int .i64))/\∀z∈zs,fits z:=by
 obtain⟨css,h1,h2,h3⟩:=h
 have hf:∀(css:List (List R))(zs:List Int),css.length=zs.length->(∀i(a:i<zs.length)(b:i<css.length),dr.rd X B css[i] zs[i])->css.flatten=zs.map (Value.int .i64)/\∀z∈zs,fits z:=by
  intro css;induction css with
  |nil=>intro zs h _;have :zs=[]:=fp h.symm;subst this;simp
  |cons c css ih=>
   intro zs h hr;cases zs with
   |nil=>simp at h
   |cons z zs=>
    obtain⟨e1,e2⟩:=hr 0 bY bY;obtain⟨k1,k2⟩:=ih zs (by simpa using h) (λ i a b=>hr (i+1) (by simpa using a) (by simpa using b));have Xv:c=[I J z]:=e1;have e2':fits z:=e2;refine⟨by rw[fZ,k1,Xv];rfl,λ x hx=>?_⟩;rcases aR.1 hx with rfl|hx
    · exact e2'
    · exact k2 x hx
 obtain⟨k1,k2⟩:=hf css zs h1 h2;rw[k1] at h3;exact⟨h3,k2⟩
theorem G9{e:TypeId}{X:agb}{base B:Nat}{v:R}{zs:List Int}(h:X.ownsRow base e 1 v zs.length (zs.map (Value.int .i64)))(hf:∀z∈zs,fits z):cH dr e X base B v zs:=by
 refine⟨zs.map λ z=>[I J z],bY,λ i a b=>?_,?_⟩
 · rw[jT]
   exact⟨rfl,hf _ (cD a)⟩
 · have e:(zs.map λ z=>[I J z]).flatten=zs.map (Value.int .i64):=by
    clear h hf;induction zs with
    |nil=>rfl
    |cons z zs ih=>simp[ih]
   rw[e];exact h
open Go.Sort in
theorem yh(X:agb)(base B:Nat)(v:R)(zs:List Int)(h:cH dr 3 X base B v zs)(hl:zs.length<4611686018427387904):
 Calls prog 39 #[v] X λ e X'=>e=.returned (.tuple #[])/\cH dr 3 X' base B v (PV zs)/\Only (λ g=>v.ownBlock=O g) X X':=by
 obtain⟨h1,h2⟩:=sL h;rcases h1.2 with⟨rfl,h0⟩|⟨g,cap,cur,rfl,hb,hg,hn,hc,hs,ht⟩
 · have :zs=[]:=fp h0
   subst this;exact(Tryz.slices_Sort_int_none _ _ X).mono λ e X' ⟨q1,q2⟩=>by subst q2;exact⟨q1,by simpa [PV] using h,Only.refl _ _⟩
 · have hlt:g<X.heap.size:=by
    rcases eC g X.heap.size with h'|h'
    · exact h'
    · rw[cI h'] at hg;cases hg
   refine(Tryz.slices_Sort_int g 0 cap zs X (holds_of_blockI hg (by simpa using ht)) hlt hl).mono ?_;rintro e X' ⟨q1,n,os,rfl⟩;have e1:(PV zs).length=zs.length:=N6 zs;have k:=ownsRow_sortedI (n:=n) (os:=os) (ts:=PV zs) e1 hb hg hn hc hs;refine⟨q1,G9 (by rw[e1];exact k) (λ z hz=>h2 z (N7.1 hz)),(Only.refl _ _).grown (grownBy_sortedI _) (λ g' e=>.inl e)⟩
open Go.Sort in
theorem qE(X:agb)(base B:Nat)(v:R)(zs:List Int)(h:cH dr 3 X base B v zs):
 Calls prog 40 #[v] X λ e X'=>∃A cap,e=.returned (G A (Lib.compact zs).length cap)/\cH dr 3 X' base B (G A (Lib.compact zs).length cap) (Lib.compact zs)/\(G A (Lib.compact zs).length cap).ownBlock=v.ownBlock/\Only (λ g=>v.ownBlock=O g) X X':=by
 obtain⟨h1,h2⟩:=sL h
 have Hb:∀z∈Lib.compact zs,fits z:=λ z hz=>by
  unfold Lib.compact Lib.compactUpTo at hz;obtain⟨i,hi,rfl⟩:=eQ.1 hz;have hi':i<zs.length:=bG.1 (dY.1 hi).1;have e:zs.toArray[i]! =zs[i]:=by rw[getElem!_pos _ i (by simpa using hi')];simp
  rw[e];exact h2 _ (cD hi')
 rcases h1.2 with⟨rfl,h0⟩|⟨g,cap,cur,rfl,hb,hg,hn,hc,hs,ht⟩
 · have :zs=[]:=fp h0
   subst this;exact(Tryz.slices_Compact_int_empty _ _ X).mono λ e X' ⟨q1,q2⟩=>by subst q2;have e0:Lib.compact ([]:List Int)=[]:=rfl;rw[e0];exact⟨U,0,q1,h,rfl,Only.refl _ _⟩
 · have hle:=Lib.compact_length_le zs
   refine(Tryz.slices_Compact_int g 0 cap zs X (holds_of_blockI hg (by simpa using ht)) (by simp[maxLen] at hc;omega) hn).mono ?_;rintro e X' ⟨q1,q,rfl⟩;have hc2:=Lib.ownsRow_putRow (enc:=Value.int .i64) (q:=q) (k:=(Lib.compact zs).length) (ys:=Lib.compact zs++List.replicate (zs.length - (Lib.compact zs).length) 0) h1 gW hle;rw[List.take_left] at hc2;refine⟨O ⟨g,0,U⟩,cap,q1,G9 hc2 Hb,rfl,?_⟩;have hg1:=grownBy_sortedI (w:=X) (g:=g) (n:=q) (os:=#[]) (Lib.compact zs++List.replicate (zs.length - (Lib.compact zs).length) 0).toArray;rw[grow_empty] at hg1;exact(Only.refl _ _).grown hg1 (λ g' e=>.inl e)
end
end Go.Proofs.YtbcpcneadjcmlaaGreatDoor
