import Derived.Test.YtbcpcneadjcmlaaGreatDoorK19
import Derived.Laws.MakeOwn
import Derived.Laws.ResultCell
namespace Go.Proofs.YtbcpcneadjcmlaaGreatDoor
open Go.Proofs.Tryz
set_option maxRecDepth 100000
set_option maxHeartbeats 16000000
set_option linter.unusedVariables false
set_option linter.unusedSimpArgs false
open Value renaming int→I,slice→G,pointer→M
open IntKind renaming i64→J
open Obj renaming cells→D
open Option renaming some→O,none→U
open Go renaming Value→R,World→agb
open List renaming length→agh
section
open Go.RowKit Go.Maps
attribute [local go_sem] aQ aC bW jC
theorem kB{P:Program}{fn:Func}{a u:Tmp}{t:TypeId}{tmps:Array R}{p:Addr}{v:R}{w:agb}(h:fn.results=#[.cell a t,.tmp u])(hb:tmps.getD a undef=M (O p))(hl:(loadVar t p).run P w=.ok v w):
 (results fn tmps).run P w=.ok (.tuple #[v,tmps.getD u undef]) w:=by
 rw[results_cell_tmp h,hb];show(((loadVar t p).run P w).andThen λ v w₂=>Result.ok (Value.tuple #[v,tmps.getD u undef]) w₂)=_;rw[hl];rfl
theorem wP{X:agb}{g:Nat}{a b:R}(h:Bk X g #[a,b] 56):(loadVar 56 ⟨g,0,U⟩).run prog X=.ok (.agg #[a,b]) X:=
 jl (cs:=#[a,b]) (λ j u hj=>by rw[bX,h.cell];exact hj) underlying56 rfl aV
theorem Uk{w:agb}{B:Nat}{A:dB}{zs:List Zn}(h:cG nM w B A zs):
 ∃css:List (List R),css.length=zs.length/\(∀(X:agb)(b i:Nat)(h1:i<zs.length)(h2:i<css.length),nM.rd X b css[i] zs[i])/\∀X,Below B w X->Cn X A zs.length css.flatten:=by
 obtain⟨css,f1,f2,_,_,f5⟩:=h.flat;refine⟨css,f1,λ X b i h1 h2=>Oi (f2 i h1 h2),λ X hX=>uJ f5 hX⟩
theorem Ul{w:agb}{B:Nat}{cs:List R}{z:Zn}(h:nM.rd w B cs z):∀u∈cs,u.oneCell'=true:=by obtain⟨e,_,_⟩:=mG h;have :=ko z;rw[dJ] at this;rw[e];exact λ u hu=>this u (by simpa using hu)
def sU:Bs Dk:=⟨[],[],λ _=>U,0,λ _=>U,0,λ _=>U,0⟩
theorem Yk(Z:List Zn)(eE:Fc->Dk):zw Z aP eE sU:=
 ⟨⟨λ i nd h=>absurd h (by simp[sU]),by simp[sU],by simp[sU]⟩,λ n k=>by simp[sU],λ d k=>by simp[sU],λ l a k h=>absurd h (by simp[sU])⟩
theorem Um(Z:List Zn):VB Z aP sU:=⟨λ n k h=>absurd h (by simp[sU]),λ n k h=>absurd h (by simp[sU]),λ n k h=>absurd h (by simp[sU]),λ n h=>absurd h (by simp[sU])⟩
theorem En.all(E:En):∀k,k<=10->E.yv k
 |0,_=>E.leaf
 |k+1,h=>E.node k ar (En.all E k ar)
theorem sV{rs:List Rl}(h:jg rs=true):rs.length<=200/\∀r∈rs,Kd r=false:=by
 unfold jg at h;simp only[aD,decide_eq_true_eq] at h;refine⟨h.1,λ r hr=>?_⟩;obtain⟨k,hk,rfl⟩:=bo.1 hr;have h2:=h.2;unfold ur at h2;have h3:=cY.1 h2 k (bG.2 hk);rw[af hk] at h3;have h4:Au rs k rs[k]=false:=by simpa using h3
 unfold Au at h4;rw[Bool.or_eq_false_iff] at h4;exact h4.2
theorem nE{rs:List Rl}(h:jg rs=true):(∀z∈bc rs,zG z=true)/\(∀r∈rs,r.2.2.1.length<=200)/\(bc rs).length<=40000:=by
 obtain⟨h1,h2⟩:=sV h
 have h3:∀r∈rs,r.2.2.1.length<=200/\∀z∈r.2.2.1,zG z=true:=λ r hr=>by have :=h2 r hr;unfold Kd at this;rw[Bool.or_eq_false_iff,Bool.or_eq_false_iff] at this;obtain⟨⟨_,k1⟩,k2⟩:=this;refine⟨by simpa using k1,λ z hz=>?_⟩;rw[List.any_eq_false] at k2;have :=k2 z hz;simpa using this
 refine⟨λ z hz=>?_,λ r hr=>(h3 r hr).1,?_⟩
 · obtain⟨r,hr,hz⟩:=dP.1 hz
   exact(h3 r hr).2 z hz
 · have :∀l:List Rl,(∀r∈l,r.2.2.1.length<=200)->(bc l).length<=200*l.length:=by
    intro l;induction l with
    |nil=>intro _;simp[bc]
    |cons r l ih=>
     intro hl;have h1:=ih (λ x hx=>hl x (by simp[hx]));have h2:=hl r bY;unfold bc at h1⊢;rw[gZ,ax,bD];omega
   have h4:=this rs (λ r hr=>(h3 r hr).1);omega
theorem Un(w X:agb)(z:Nat)(hz:X.heap.size=z)(hX:aZ w X):∃S,xC (((((X.alloc (.map #[] 0)).alloc (.map #[] 0)).alloc (.map #[] 0)).alloc (D #[G U 0 0,G U 0 0,.map (O z),.map (O (z+1)),.map (O (z+1+1))] 115)).alloc (D #[M (O ⟨z+1+1+1,0,U⟩)] 111)) w.heap.size (z+1+1+1) S sU/\
 aZ X (((((X.alloc (.map #[] 0)).alloc (.map #[] 0)).alloc (.map #[] 0)).alloc (D #[G U 0 0,G U 0 0,.map (O z),.map (O (z+1)),.map (O (z+1+1))] 115)).alloc (D #[M (O ⟨z+1+1+1,0,U⟩)] 111))/\
 Bk (((((X.alloc (.map #[] 0)).alloc (.map #[] 0)).alloc (.map #[] 0)).alloc (D #[G U 0 0,G U 0 0,.map (O z),.map (O (z+1)),.map (O (z+1+1))] 115)).alloc (D #[M (O ⟨z+1+1+1,0,U⟩)] 111)) (z+1+1+1+1) #[M (O ⟨z+1+1+1,0,U⟩)] 111/\(∀g,S g->X.heap.size<=g/\g≠z+1+1+1+1):=by
 obtain⟨X1,h1⟩:∃Y,Y=X.alloc (.map #[] 0):=⟨_,rfl⟩;obtain⟨X2,h2⟩:∃Y,Y=X1.alloc (.map #[] 0):=⟨_,rfl⟩;obtain⟨X3,h3⟩:∃Y,Y=X2.alloc (.map #[] 0):=⟨_,rfl⟩;obtain⟨X4,h4⟩:∃Y,Y=X3.alloc (D #[G U 0 0,G U 0 0,.map (O z),.map (O (z+1)),.map (O (z+1+1))] 115):=⟨_,rfl⟩;obtain⟨X5,h5⟩:∃Y,Y=X4.alloc (D #[M (O ⟨z+1+1+1,0,U⟩)] 111):=⟨_,rfl⟩;rw[<-h1,<-h2,<-h3,<-h4,<-h5];have s1:X1.heap.size=z+1:=by rw[h1];simp[hz]
 have s2:X2.heap.size=z+1+1:=by rw[h2];simp[s1]
 have s3:X3.heap.size=z+1+1+1:=by rw[h3];simp[s2]
 have s4:X4.heap.size=z+1+1+1+1:=by rw[h4];simp[s3]
 have b1:jQ yl prog 9 3 X5 z 0 (λ _=>U):=by have h:=jQ.new yl prog 9 3 X;rw[<-h1,hz] at h;exact h.below (by rw[h5,h4,h3,h2];exact ay (ay (ay (aj _ _) _) _) _)
 have b2:jQ Mg prog 9 3 X5 (z+1) 0 (λ _=>U):=by have h:=jQ.new Mg prog 9 3 X1;rw[<-h2,s1] at h;exact h.below (by rw[h5,h4,h3];exact ay (ay (aj _ _) _) _)
 have b3:jQ yt prog 63 3 X5 (z+1+1) 0 (λ _=>U):=by have h:=jQ.new yt prog 63 3 X2;rw[<-h3,s2] at h;exact h.below (by rw[h5,h4];exact ay (aj _ _) _)
 have b4:Bk X5 (z+1+1+1) #[G U 0 0,G U 0 0,.map (O z),.map (O (z+1)),.map (O (z+1+1))] 115:=by rw[h5,h4];exact(au X3 _ _ _ s3).alloc _
 have b5:Bk X5 (z+1+1+1+1) #[M (O ⟨z+1+1+1,0,U⟩)] 111:=by rw[h5];exact au X4 _ _ _ s4
 have hw:aZ X X5:=by rw[h5,h4,h3,h2,h1];exact ay (ay (ay (ay (aj _ _) _) _) _) _
 refine⟨bS (λ _=>False) (z+1+1+1) (G U 0 0) (G U 0 0) z (z+1) (z+1+1),⟨λ _=>False,G U 0 0,G U 0 0,z,z+1,z+1+1,⟨b4,mz.nil,cH.nil,b1,b2,b3,λ g h=>h.elim,ar,ar,ar⟩,λ g=>Iff.rfl⟩,hw,b5,λ g hg=>?_⟩;rcases hg with h|h|h|h|h|h|h
 · omega
 · cases h
 · cases h
 · omega
 · omega
 · omega
 · exact h.elim
structure Bd(w:agb)(A:dB)(n cap pb bb vb lb zb aai:Nat)(S:Nat->Prop)(vZ:R)(zs:List Zn)(X:agb):Prop where
 low:aZ w X
 p_:Bk X pb #[G A n cap] 38
 g_:Bk X (pb+1) #[G U 0 0,G U 0 0] 56
 b:xC X w.heap.size bb S sU
 v_:Bk X vb #[M (O ⟨bb,0,U⟩)] 111
 l_:Bk X lb (jY aP) 90
 z_:Bk X zb #[vZ] 44
 row:cH nM 90 X aai 0 vZ zs
 hS:∀g,S g->pb+1<g/\g≠vb/\g<aai
 o1:w.heap.size<=pb
 o2:vb<aai
 o3:aai<=lb
 o4:aai<=zb
 o5:pb+1<aai
 sz:aai<=X.heap.size
theorem Bd.only{w X X':agb}{A:dB}{n cap pb bb vb lb zb aai:Nat}{S T:Nat->Prop}{vZ:R}{zs:List Zn}(h:Bd w A n cap pb bb vb lb zb aai S vZ zs X)(ho:Only T X X')(hT:∀g,T g->aai<=g/\g≠lb/\g≠zb/\vZ.ownBlock≠O g):Bd w A n cap pb bb vb lb zb aai S vZ zs X':=by have h1:=h.o1;have h2:=h.o5;have h3:=h.o2;refine⟨h.low.trans (ho.aK (λ g hg=>by have :=(hT g hg).1;omega) h.low.size),h.p_.only ho (λ hg=>by have :=(hT _ hg).1;omega),h.g_.only ho (λ hg=>by have :=(hT _ hg).1;omega),h.b.only ho (λ g hg hs=>by have :=(hT _ hg).1;have :=(h.hS g hs).2.2;omega),h.v_.only ho (λ hg=>by have :=(hT _ hg).1;omega),h.l_.only ho (λ hg=>(hT _ hg).2.1 rfl),h.z_.only ho (λ hg=>(hT _ hg).2.2.1 rfl),h.row.only ho (λ _ _=>ak _) (ak _) (λ g hg hq=>(hT g hq).2.2.2 hg),h.hS,h.o1,h.o2,h.o3,h.o4,h.o5,bm h.sz ho.size⟩
theorem Bd.keep{w X X':agb}{A:dB}{n cap pb bb vb lb zb aai:Nat}{S:Nat->Prop}{vZ:R}{zs:List Zn}(h:Bd w A n cap pb bb vb lb zb aai S vZ zs X)(hb:aZ X X'):Bd w A n cap pb bb vb lb zb aai S vZ zs X':=h.only (T:=λ _=>False) (aw hb) (λ _ h=>h.elim)
theorem Ik{e:TypeId}{X:agb}{base B:Nat}{v:R}{xs:List Zn}(h:cH nM e X base B v xs){g t:Nat}{C:Array R}(hb:Bk X g C t)(hne:e≠t):∀g',v.ownBlock=O g'->g'≠g:=λ g' hg e'=>by obtain⟨css,_,_,hown⟩:=h;obtain⟨C',hC⟩:=gN hown hg;subst e';exact hne (fK hC hb)
theorem Bd.push{w X w9:agb}{A:dB}{n cap pb bb vb lb zb aai:Nat}{S:Nat->Prop}{vZ:R}{zs zs':List Zn}{A9:dB}{n9 c9:Nat}(h:Bd w A n cap pb bb vb lb zb aai S vZ zs X)(iO:cH nM 90 w9 aai 0 (G A9 n9 c9) zs')(kH:Only (λ g=>vZ.ownBlock=O g) X w9)(hl:vZ.ownBlock≠O lb):
 Bd w A n cap pb bb vb lb zb aai S (G A9 n9 c9) zs' (w9.setCell ⟨zb,0,U⟩ (G A9 n9 c9)):=by
 have h1:=h.o1;have h2:=h.o5;have h3:=h.o2;have h4:=h.o4;have hrow:=h.row.lt;have hzb:Bk w9 zb #[vZ] 44:=h.z_.only kH (λ e=>Ik h.row h.z_ cj zb e rfl);have ho:Only (λ g=>vZ.ownBlock=O g\/g=zb) X (w9.setCell ⟨zb,0,U⟩ (G A9 n9 c9)):=(kH.mono λ g e=>.inl e).aS (p:=⟨zb,0,U⟩) (.inl (.inr rfl)) _;have Mz:Only (λ g=>g=zb) w9 (w9.setCell ⟨zb,0,U⟩ (G A9 n9 c9)):=(Only.refl (λ g=>g=zb) w9).aS (p:=⟨zb,0,U⟩) (.inl rfl) _;have hM:∀g,(vZ.ownBlock=O g\/g=zb)->aai<=g:=λ g hg=>hg.elim (λ e=>(hrow g e).1) (λ e=>ar)
 have JH:lb≠zb:=λ e=>by have h5:=h.l_;rw[e] at h5;exact absurd (fK h5 h.z_) cj
 refine⟨h.low.trans (ho.aK (λ g hg=>by have :=hM g hg;omega) h.low.size),h.p_.only ho (λ hg=>by have :=hM _ hg;omega),h.g_.only ho (λ hg=>by have :=hM _ hg;omega),h.b.only ho (λ g hg hs=>by have :=hM _ hg;have :=(h.hS g hs).2.2;omega),h.v_.only ho (λ hg=>by have :=hM _ hg;omega),h.l_.only ho (λ hg=>hg.elim hl JH),hzb.aS 0 _,iO.only Mz (λ _ _=>ak _) (ak _) (Ik iO hzb cj),h.hS,h.o1,h.o2,h.o3,h.o4,h.o5,bm h.sz ho.size⟩
theorem uB{rs:List Rl}{j:Nat}{r:Rl}(h:rs[j]?=O r):bc (rs.take (j+1))=bc (rs.take j)++r.2.2.1:=by unfold bc;rw[bu,h,eJ];simp
theorem zL(rs:List Rl)(j:Nat):(bc (rs.take j)).length<=(bc rs).length:=by
 have :bc rs=bc (rs.take j)++bc (rs.drop j):=by unfold bc;rw[<-eJ,ia]
 rw[this,ax];omega
def pS(n j:Nat):Array R:=((List.range n).map λ i=>I J (if i<j then(i:Int) else 0)).toArray
theorem uY(n j:Nat):(pS n j).size=n:=by simp[pS]
theorem yx{n j i:Nat}(h:i<n):(pS n j)[i]?=O (I J (if i<j then(i:Int) else 0)):=by simp[pS,h]
theorem Gi{n j:Nat}(h:j<n):(pS n j).setIfInBounds j (I J (j:Int))=pS n (j+1):=by
 apply jt
 intro i;rw[iv];by_cases hi:i<n
 · rw[yx hi,yx hi,uY]
   by_cases hj:j=i
   · subst hj
     simp[h]
   · rw[if_neg hj]
     by_cases h1:i<j
     · rw[if_pos h1,if_pos ar]
     · rw[if_neg h1,if_neg ar]
 · rw[cI (by rw[uY];omega),cI (by rw[uY];omega)]
   have hj:j≠i:=ar;rw[if_neg hj]
theorem DZ(n:Nat)(X:agb)(hn:n<=1000000):(Instr.makeSlice 117 (I J (n:Int)) (I J (n:Int))).run prog X=.ok (G (O ⟨X.heap.size,0,U⟩) n n) (X.alloc (D (pS n 0) 3)):=by
 obtain⟨i,z,i1,i2,i3,i4,i5⟩:=kU (P:=prog) (e:=3) (size:=1) (bytes:=8) (c:=1) aV
 have hz:z.cells=#[I J 0]:=by have h:((prog.info? 3).bind (·.zero)).map (·.cells)=O #[I J 0]:=aV;rw[i1] at h;simp only[lH] at h;rw[i2] at h;simpa using h
 have hm:madeCells #[I J 0] n=pS n 0:=by
  apply jt
  intro k;by_cases hk:k<n
  · rw[yx hk]
    simp[madeCells,hk,Nat.mod_one]
  · rw[cI (by rw[size_madeCells];omega),cI (by rw[uY];omega)]
 rw[run_make X 117 3 i z zS i1 i2 .i64 .i64 n n ar ar (by rw[i4];omega) ar,hz,i3];simp only[Int.toNat_natCast,Nat.mul_one];rw[hm]
theorem Uo{Z:List Zn}{eE:Fc->Dk}{live:List Nat}{f:Fc}(h:il (cA Z aP) 10<=1099511627776):Sm (eZ Z aP eE 10 live f sU).1:=by have hg:=mr (Z:=Z) (lim:=aP) (eE:=eE) (λ a live=>sS Z aP a live) 10 live f sU;obtain⟨aai,e1,l1⟩:=hg.nodes;obtain⟨K,e2,l2⟩:=hg.leaves;have h1:=hg.nk;have h2:=hg.nm;have h3:=hg.nl;simp only[sU,eV] at e1 e2 h1 h2 h3;exact⟨by show(eZ Z aP eE 10 live f sU).1.nodes.length<=_;simp only[sU];rw[e1];omega,by show(eZ Z aP eE 10 live f sU).1.leaves.length<=_;simp only[sU];rw[e2];omega,by simp only[sU];omega,by simp only[sU];omega,by simp only[sU];omega⟩
theorem Kt{Z:List Zn}{eE:Fc->Dk}{live:List Nat}{f:Fc}:(eZ Z aP eE 10 live f sU).1.nodes.length<=il (cA Z aP) 10:=by have hg:=mr (Z:=Z) (lim:=aP) (eE:=eE) (λ a live=>sS Z aP a live) 10 live f sU;obtain⟨aai,e1,l1⟩:=hg.nodes;have h1:=hg.nk;have h2:=hg.nm;have h3:=hg.nl;simp only[sU,eV] at e1 h1 h2 h3;show(eZ Z aP eE 10 live f sU).1.nodes.length<=_;simp only[sU];rw[e1];omega
def f0:Fc:=[0,0,0,0,0,0,0,0,0,0]
def abG(w:agb)(rs:List Rl)(e:Ending)(w':agb):Prop:=aZ w w'/\
 if jg rs then
  (20000<il (cA (bc rs) aP) 10/\e=.returned (.tuple #[.agg #[G U 0 0,G U 0 0],I J 3]))\/
  ∃(T:List Nd) (Lv:List Dk) (A1:dB) (c1:Nat) (A2:dB) (c2:Nat),e=.returned (.tuple #[.agg #[G A1 T.length c1,G A2 Lv.length c2],I J 0])/\ic vH w' A1 (T.map pA)/\ic Hm w' A2 Lv/\(T.length<=c1/\c1<=maxLen)/\(Lv.length<=c2/\c2<=maxLen)/\mU (bc rs) aP (iK rs) T Lv
 else e=.returned (.tuple #[.agg #[G U 0 0,G U 0 0],I J 1])
theorem Gj(A:dB)(rs:List Rl)(cap n:Nat)(w:agb)(h:ic se w A rs)(hn:rs.length=n)(hl:n<=9223372036854775807)(ht:nu w)(iF:il (cA (bc rs) aP) 10<=1099511627776):
 Calls prog 13 #[.agg #[G A n cap]] w (abG w rs):=by
 subst hn;have hval:=λ(X:agb) (hX:aZ w X)=>uT A rs cap rs.length X X.heap.size (h.keep hX hX.size) (ah _) rfl hl;have hh:=h;cases hv:jg rs
 · rw[hv] at hval
   have HV:=aG hval;have HF:=aG hv;clear hval hv h hh ht iF;go_enter func13,ntmps13;go_upto_region 2 with(go_at_call 10;refine(HV.o _ dE).mono ?_;rintro e w2 ⟨rfl,hb⟩;have HB:=aG hb;clear hb);have hw:aZ w w2/\Bk w2 (w.heap.size+1) #[G U 0 0,G U 0 0] 56:=⟨aq dE HB.o,(au _ _ _ _ bY).below HB.o⟩;refine forget (λ X=>aZ w X/\Bk X (w.heap.size+1) #[G U 0 0,G U 0 0] 56) hw ?_;clear hw HB;clear w2;rintro X ⟨hX,hg⟩;obtain⟨cg,lg⟩:=hg.cl0;have fg:=hg.free 0;have fg1:=hg.free 1;have HX:=dt hX hg;clear hX hg;go_wp2_with fail;have hb2:=(HX.t1.aS 0 (G U 0 0)).aS 1 (G U 0 0);have ho:Only (λ g=>g=w.heap.size+1) X ((X.setCell ⟨w.heap.size+1,0,U⟩ (G U 0 0)).setCell ⟨w.heap.size+1,1,U⟩ (G U 0 0)):=((Only.refl (λ g=>g=w.heap.size+1) X).aS (p:=⟨w.heap.size+1,0,U⟩) (.inl rfl) _).aS (p:=⟨w.heap.size+1,1,U⟩) (.inl rfl) _;refine bodyPost_ret (kB rfl rfl (wP hb2)) rfl ⟨HX.q1.trans (ho.aK (λ g hg=>by rw[hg];omega) HX.q1.size),?_⟩;rw[HF.o];rfl
 · rw[hv] at hval
   obtain⟨gz1,gz2,gz3⟩:=nE hv;have Ku:rs.length<=200:=(sV hv).1;have HV:=aG hval;have HF:=aG hv;have HG:=uF gz1 gz2 gz3 ht iF hh;have JC:rs.length<=200:=ar;clear hval hv h hh ht iF gz1 gz2 gz3;have qf:= @run_makeMap prog;go_enter func13,ntmps13;go_upto_region 3 with(go_at_call 10;refine(HV.o _ dE).mono ?_;rintro e w2 ⟨rfl,hb⟩;have HB:=aG hb;clear hb);have hw:aZ w w2/\Bk w2 w.heap.size #[G A rs.length cap] 38/\Bk w2 (w.heap.size+1) #[G U 0 0,G U 0 0] 56:=⟨aq dE HB.o,((au _ _ _ _ rfl).alloc _).below HB.o,(au _ _ _ _ bY).below HB.o⟩;refine forget (λ X=>aZ w X/\Bk X w.heap.size #[G A rs.length cap] 38/\Bk X (w.heap.size+1) #[G U 0 0,G U 0 0] 56) hw ?_;clear hw HB HV;clear w2;rintro X ⟨hX,hp,hg⟩;obtain⟨pb,oU⟩:∃p,w.heap.size=p:=⟨_,rfl⟩;have HPB:=aG oU;rw[oU] at hp hg⊢;have HX:=fH hX hp hg;have hsz:=hX.size;clear hX hp hg oU;go_upto_region 4 with fail;obtain⟨z,hz⟩:∃z,X.heap.size=z:=⟨_,rfl⟩;have hst:=Un w X z hz HX.q1;rw[hz];refine forget (λ V=>∃S,xC V w.heap.size (z+1+1+1) S sU/\aZ X V/\Bk V (z+1+1+1+1) #[M (O ⟨z+1+1+1,0,U⟩)] 111/\(∀g,S g->X.heap.size<=g/\g≠z+1+1+1+1)) hst ?_;have hpl:=HX.t2.lt
   have IP:∀V S,(xC V w.heap.size (z+1+1+1) S sU/\aZ X V/\Bk V (z+1+1+1+1) #[M (O ⟨z+1+1+1,0,U⟩)] 111/\(∀g,S g->X.heap.size<=g/\g≠z+1+1+1+1))->aZ w V/\Bk V pb #[G A rs.length cap] 38/\Bk V (pb+1) #[G U 0 0,G U 0 0] 56/\xC V w.heap.size (z+1+1+1) S sU/\Bk V (z+1+1+1+1) #[M (O ⟨z+1+1+1,0,U⟩)] 111/\(∀g,S g->pb+1<g/\g≠z+1+1+1+1/\g<V.heap.size):=λ V S ⟨k1,k2,k3,k4⟩=>⟨aq HX.q1 k2,HX.q2.below k2,HX.t2.below k2,k1,k3,λ g hg=>⟨by have :=(k4 g hg).1;omega,(k4 g hg).2,k1.lt g hg⟩⟩
   generalize z+1+1+1+1=vb at *;generalize z+1+1+1=bb at *;rintro V ⟨S,hV⟩;obtain⟨k1,k2,k3,k4,k5,k6⟩:=IP V S hV;have k7:=k5.lt;have k8:=k3.lt;have k9:=k4.lt;obtain⟨aai,hM⟩:∃aai,V.heap.size=aai:=⟨_,rfl⟩;have hw0:w.heap.size<=pb:=by have :=HPB.o;omega
   have HB:=uF k1 k2 k3 k4 k5 k6;have HM:=aG hM;clear IP hV hst k1 k2 k3 k4 k5 k6 HX hz hM hpl hsz;clear X
   go_upto_region 5 with(first
    |(go_at_call 23;refine(nD _).mono ?_;rintro e w1 ⟨rfl,hb⟩;have HL:=aG hb;clear hb)
    |(refine fD (o:=⟨U,.store 90 _ _,_,_,_,_⟩) rfl _ _ _ rfl (jY aP) rfl rfl my rfl (ko aP) ?_))
   go_upto_region 6 with fail;obtain⟨lb,oy⟩:∃l,w1.heap.size=l:=⟨_,rfl⟩;rw[oy]
   have hD:Bd w A rs.length cap pb bb vb lb (lb+1) aai S (G U 0 0) [] ((w1.alloc (D (jY aP) 90)).alloc (D #[G U 0 0] 44)):=by have hb2:aZ V ((w1.alloc (D (jY aP) 90)).alloc (D #[G U 0 0] 44)):=ay (ay HL.o _) _;have h1:=HL.o.size;have h2:=HM.o;exact⟨aq HB.q1 hb2,HB.q2.below hb2,HB.q3.below hb2,HB.q4.below hb2,HB.q5.below hb2,(au _ _ _ _ oy).alloc _,au _ _ _ _ (by simp[oy]),cH.nil,λ g hg=>by have :=HB.t5 g hg;omega,hw0,ar,ar,ar,ar,by have :=hb2.size;omega⟩
   refine forget (λ V=>Bd w A rs.length cap pb bb vb lb (lb+1) aai S (G U 0 0) [] V) hD ?_;have aq2:aai<=lb:=by have h1:=HL.o.size;have h2:=HM.o;omega
   clear hD HB HM HL oy k7 k8 k9 hw0;clear w1 V;rintro V hT;obtain⟨cp,lp⟩:=hT.p_.cl0;have HT:=aG hT;clear hT;go_wp2_with fail;go_loopw [26] (λ i wr=>∃(j:Nat) (vZ:R),j<=rs.length/\i=I J j/\Bd w A rs.length cap pb bb vb lb (lb+1) aai S vZ (bc (rs.take j)) wr/\vZ.ownBlock≠O lb) (λ i _=>rs.length - (intOf i).toNat)
   case atStart=>exact⟨0,_,ak _,rfl,HT.o,λ e=>by cases e⟩
   case round=>
    clear HT cp lp;obtain⟨j,vZ,hj,rfl,hT,Ga⟩:=hrel;generalize wr=wA at *;by_cases hlt:j<rs.length
    · as_aux_lemma=>
      have rE:(j:Int)<(rs.length:Int):=ar;obtain⟨b,off,kd,nm,AZ,zs',zc,num,rn,rd,sn,sd,rfl,pZ,Hx,e0,e1,e2,e3,e4,e5,e6,e7,Je,hz1,hz2,Yl,f1,f2⟩:=kA (HG.t5.keep hT.low (ah _)) (k:=j) ar;have hbl:b<wA.heap.size:=by have :=hT.low.size;omega
      obtain⟨A7,c7,Qb,EJ,EX⟩:=hT.row.form;subst Qb;obtain⟨css,g1,g2,g3⟩:=Uk Yl;have hst:=uB Hx.o;have hle:=zL rs (j+1);obtain⟨zs,hzs⟩:∃zs,bc (rs.take j)=zs:=⟨_,rfl⟩;rw[hzs] at hst hT Ga
      have Up:zs.length+zs'.length<=40000:=by have h1:=congrArg agh hst;rw[ax] at h1;have h2:zs'.length=((kd,nm,zs',num,(rn,rd),(sn,sd)):Rl).2.2.1.length:=rfl;have :=HG.q3;omega
      obtain⟨cz,lz⟩:=hT.z_.cl0;have HT:=yJ hT Ga hst g1 g2 g3 Up;have aj6:=hT.sz;clear hT Ga hst g1 g2 g3 Up hzs Hx Yl EJ EX hle;go_wp2_with (at_builtin;go_loud (refine en (T:=nM) (base:=aai) (B:=0) (e:=90) (v:=G A7 zs.length c7) (qs:=zs) rfl _ _ _ rfl 160 vq aV cj (λ w B cs x h=>Ul h) rfl (HT.q1.row.below dE (ak _)) AZ zs'.length zc zs' css rfl rfl HT.q4 (λ i h1 h2=>HT.q5 _ _ i h1 h2) (HT.q6 _ ((aj _ _).mono HT.q1.low.size)) (by have :=HT.t6;unfold maxLen;omega) (by have :=HT.t6;omega) gW (ak _) ?_);intro A9 c9 w9 iO kY E2 kT;have kH:Only (λ g=>(G A7 zs.length c7).ownBlock=O g) wA w9:=((Only.refl _ wA).alloc _).grown E2 (λ g e=>.inl e);have bq:=HT.q1.z_.only kH (λ e=>Ik HT.q1.row HT.q1.z_ cj _ e rfl);have cq:=bq.cell;have fq:=bq.free 0;have lq:=bq.lt;have H9:=fH iO kH kT;clear iO kY E2 kH kT bq);go_roundw
      case rel=>
       refine⟨j+1,G A9 (zs.length+zs'.length) c9,ar,gC,HT.q1.push (zs':=bc (rs.take (j+1))) (by rw[HT.q3];exact H9.q1) H9.q2 HT.q2,λ e=>?_⟩
       have hm:A9.map (·.block)=O lb:=by cases A9 with
        |none=>simp[Value.ownBlock] at e
        |some a=>simpa [Value.ownBlock] using e
       have xV:=HT.q1.l_.lt;rcases H9.t2 with q|q
       · exact HT.q2 (q.symm.trans hm)
       · rw[hm] at q
         have :=aO q;simp at this;omega
      case measure=>simp[intOf];omega
    · as_aux_lemma=>
      obtain rfl:j=rs.length:=ar;rw[aX] at hT;obtain⟨A7,c7,Qb,EJ,EX⟩:=hT.row.form;subst Qb;obtain⟨nz,hnz⟩:∃m,(bc rs).length=m:=⟨_,rfl⟩;have aq3:nz<=40000:=by have :=HG.q3;omega
      have Th:=λ X=>DZ nz X ar;obtain⟨cz,lz⟩:=hT.z_.cl0;have HT:=dt hT Ga;rw[hnz] at cz;have HNZ:=aG hnz;clear hT Ga EJ EX hnz;go_upto_region 14 with fail;obtain⟨fb,qI⟩:∃x,wA.heap.size=x:=⟨_,rfl⟩;rw[qI];obtain⟨E,hE⟩:∃E:En,E=⟨w,pb,vb,lb,lb+1,fb,bb,w.heap.size,A,cap,A7,c7,rs⟩:=⟨_,rfl⟩
      have hV:(E.ok ((wA.alloc (D #[.func (.func 36) #[] #[M (O ⟨pb,0,U⟩),M (O ⟨vb,0,U⟩),M (O ⟨lb,0,U⟩),M (O ⟨lb+1,0,U⟩),M (O ⟨fb,0,U⟩)]] 116)).alloc (D (pS nz 0) 3))/\xC ((wA.alloc (D #[.func (.func 36) #[] #[M (O ⟨pb,0,U⟩),M (O ⟨vb,0,U⟩),M (O ⟨lb,0,U⟩),M (O ⟨lb+1,0,U⟩),M (O ⟨fb,0,U⟩)]] 116)).alloc (D (pS nz 0) 3)) w.heap.size bb S sU/\Bk ((wA.alloc (D #[.func (.func 36) #[] #[M (O ⟨pb,0,U⟩),M (O ⟨vb,0,U⟩),M (O ⟨lb,0,U⟩),M (O ⟨lb+1,0,U⟩),M (O ⟨fb,0,U⟩)]] 116)).alloc (D (pS nz 0) 3)) (pb+1) #[G U 0 0,G U 0 0] 56/\Bk ((wA.alloc (D #[.func (.func 36) #[] #[M (O ⟨pb,0,U⟩),M (O ⟨vb,0,U⟩),M (O ⟨lb,0,U⟩),M (O ⟨lb+1,0,U⟩),M (O ⟨fb,0,U⟩)]] 116)).alloc (D (pS nz 0) 3)) (fb+1) (pS nz 0) 3)/\(∀g,S g->¬E.blk g/\g≠fb+1/\g≠pb+1/\w.heap.size<=g)/\(∀g,E.blk g->g<=fb)/\w.heap.size<=fb/\pb+1<fb:=by
       have hb2:aZ wA ((wA.alloc (D #[.func (.func 36) #[] #[M (O ⟨pb,0,U⟩),M (O ⟨vb,0,U⟩),M (O ⟨lb,0,U⟩),M (O ⟨lb+1,0,U⟩),M (O ⟨fb,0,U⟩)]] 116)).alloc (D (pS nz 0) 3)):=ay (aj _ _) _;have hT:=HT.q1.keep hb2;have hfn:=(au wA fb #[.func (.func 36) #[] #[M (O ⟨pb,0,U⟩),M (O ⟨vb,0,U⟩),M (O ⟨lb,0,U⟩),M (O ⟨lb+1,0,U⟩),M (O ⟨fb,0,U⟩)]] 116 qI).alloc (D (pS nz 0) 3);have hrow:=hT.row.lt;have hsz:=hT.low.size;have aj6:=HT.q1.sz;refine⟨⟨?_,hT.b,hT.g_,au _ _ _ _ (by simp[qI])⟩,λ g hg=>?_,λ g hb=>?_,by have :=hT.o1;have :=hT.o5;omega,by have :=hT.o5;omega⟩
       · rw[hE]
         exact⟨hT.low,HG.q4,HG.t5,JC,hT.p_,hT.v_,hT.l_,hT.z_,hT.row.elems (ak _) (ah _),hfn,by show(bc rs).length<=100000;have :=HG.q3;omega,HG.q1,λ g off e=>(hrow g (by have e':A7=_:=e;rw[e'];rfl)).2,hsz⟩
       · have h1:=hT.hS g hg
         have h2:=hT.o1;have h3:=hT.o3;have h4:=hT.o4;have h6:aai<=fb:=ar;refine⟨λ hb=>?_,ar,ar,ar⟩;rw[hE] at hb;rcases hb with q|q|q|q|q|q|⟨off,q⟩
         · have q':g<w.heap.size:=q
           omega
         · have q':g=pb:=q
           omega
         · have q':g=vb:=q
           omega
         · have q':g=lb:=q
           omega
         · have q':g=lb+1:=q
           omega
         · have q':g=fb:=q
           omega
         · have q':A7=_:=q
           have :=(hrow g (by rw[q'];rfl)).1;omega
       · have h1:=HT.q1.o1
         have h2:=HT.q1.o5;have h3:=HT.q1.o2;have h4:=HT.q1.l_.lt;have h5:=HT.q1.z_.lt;rw[hE] at hb;rcases hb with q|q|q|q|q|q|⟨off,q⟩
         · have q':g<w.heap.size:=q
           omega
         · have q':g=pb:=q
           omega
         · have q':g=vb:=q
           omega
         · have q':g=lb:=q
           omega
         · have q':g=lb+1:=q
           omega
         · have q':g=fb:=q
           omega
         · have q':A7=_:=q
           have :=(HT.q1.row.lt g (by rw[q'];rfl)).2;omega
      have Ym:=aG hV.2;refine forget (λ V=>E.ok V/\xC V w.heap.size bb S sU/\Bk V (pb+1) #[G U 0 0,G U 0 0] 56/\Bk V (fb+1) (pS nz 0) 3) hV.1 ?_;have HE:=aG hE;clear hV qI HT cz lz Th hE;rintro V ⟨k1,k2,k3,k4⟩;have HV:=iM k1 k2 k3 k4;clear k1 k2 k3 k4;go_wp2_with fail;go_loopw [41] (λ i wr=>∃(k:Nat),k<=nz/\i=I J k/\E.ok wr/\xC wr w.heap.size bb S sU/\Bk wr (pb+1) #[G U 0 0,G U 0 0] 56/\Bk wr (fb+1) (pS nz k) 3) (λ i _=>nz - (intOf i).toNat)
      case atStart=>exact⟨0,ak _,rfl,HV.q1,HV.q2,HV.q3,HV.t3⟩
      case round=>
       obtain⟨k,hk,rfl,k1,k2,k3,k4⟩:=hrel;generalize wr=wB at *;by_cases ME:k<nz
       · as_aux_lemma=>
         have kq:(k:Int)<(nz:Int):=ar;have c4:wB.cell? ⟨fb+1,k,U⟩=O (I J (if k<k then(k:Int) else 0)):=by rw[k4.cell];exact yx ME
         have l4:=k4.lt;have f4:=k4.free k;have HK:=iM k1 k2 k3 k4;clear k1 k2 k3 k4;go_wp2_with fail;go_roundw
         case rel=>have ho:Only (λ g=>g=fb+1) wB (wB.setCell ⟨fb+1,k,U⟩ (I J (k:Int))):=(Only.refl (λ g=>g=fb+1) wB).aS (p:=⟨fb+1,k,U⟩) (.inl rfl) _;have hb4:=HK.t3.aS k (I J (k:Int));rw[Gi ME] at hb4;have hpf:=Ym.t3;exact⟨k+1,ar,gC,HK.q1.only ho (λ g hg hb=>by have :=Ym.q2 g hb;omega),HK.q2.only ho (λ g hg hs=>(Ym.q1 g hs).2.1 hg),HK.q3.only ho ar,hb4⟩
         case measure=>simp[intOf];omega
       · as_aux_lemma=>
         obtain rfl:k=nz:=ar;obtain⟨r,hr⟩:∃r,eZ (bc rs) aP (iK rs) 10 (List.range k) f0 sU=r:=⟨_,rfl⟩;have Xt:iw f0=#[I J 0,I J 0,I J 0,I J 0,I J 0,I J 0,I J 0,I J 0,I J 0,I J 0]:=rfl;have hsm:Sm r.1:=by rw[<-hr];exact Uo HG.q5
         have hall:pS k k=((cV (List.range k)).map (Value.int .i64)).toArray:=by
          unfold pS cV;congr 1
          rw[List.map_map];refine List.map_congr_left (λ i hi=>?_);rw[if_pos (bG.1 hi)];rfl
         have ey:Calls prog 36 #[I J 0,G (O ⟨fb+1,0,U⟩) k k,.agg #[I J 0,I J 0,I J 0,I J 0,I J 0,I J 0,I J 0,I J 0,I J 0,I J 0],M (O ⟨pb,0,U⟩),M (O ⟨vb,0,U⟩),M (O ⟨lb,0,U⟩),M (O ⟨lb+1,0,U⟩),M (O ⟨fb,0,U⟩)] wB (λ e w'=>e=.returned (I J r.2)/\∃S',xC w' w.heap.size bb S' r.1/\Only S wB w'/\∀g,S' g->S g\/wB.heap.size<=g):=by
          have hEr:E.rs=rs:=by rw[HE.o]
          have hEb:E.bb=bb:=by rw[HE.o]
          have hEw:E.base=w.heap.size:=by rw[HE.o]
          have h:=En.all E 10 (ah _) (List.range k) f0 sU S wB (O ⟨fb+1,0,U⟩) k 0 rfl k1 (Um _) (by rw[hEb,hEw];exact k2) (λ g hg=>(Ym.q1 g hg).1) (qK k4 hall (λ z hz=>by
           unfold cV at hz;obtain⟨i,hi,rfl⟩:=eQ.1 hz;have :=bG.1 hi;unfold fits;omega)) (λ g off e hs=>by
           have e':fb+1=g:=by injection e with e;injection e
           exact(Ym.q1 g hs).2.1 e'.symm) (by rw[eW];unfold maxLen;omega) (by rw[eW];omega) (λ z hz=>by rw[hEr,HNZ.o];exact bG.1 hz) rfl (λ x hx=>by unfold f0 at hx;unfold fits;simp at hx;omega) (by rw[hEr,hr];exact hsm)
          rw[hEr,hr,hEb,hEw,eW,Xt] at h;rw[HE.o] at h;exact h
         have hfn:Bk wB fb #[.func (.func 36) #[] #[M (O ⟨pb,0,U⟩),M (O ⟨vb,0,U⟩),M (O ⟨lb,0,U⟩),M (O ⟨lb+1,0,U⟩),M (O ⟨fb,0,U⟩)]] 116:=by have h:=k1.fn;rw[HE.o] at h;exact h
         have EZ:Bk wB vb #[M (O ⟨bb,0,U⟩)] 111:=by have h:=k1.var;rw[HE.o] at h;exact h
         obtain⟨cf,ZK⟩:=hfn.cl0;have hSv:¬S vb:=λ hs=>(Ym.q1 vb hs).1 (by rw[HE.o];exact .inr (.inr (.inl rfl)));have HC:=yJ ey hr hsm EZ hSv k1.old k3;clear ey hr hsm hall hfn EZ hSv k1 k2 k3 k4 Xt HV;clear V;go_upto_region 20 with(go_at_call 36;refine HC.q1.mono ?_;rintro e w3 ⟨rfl,S2,q1,q2,q3⟩;have H3:=fH q1 q2 q3;clear q1 q2 q3)
         have hY:∃S2,xC w3 w.heap.size bb S2 r.1/\aZ w w3/\Bk w3 vb #[M (O ⟨bb,0,U⟩)] 111/\Bk w3 (pb+1) #[G U 0 0,G U 0 0] 56/\¬S2 (pb+1):=by
          have ho:=H3.q2;have hold:aZ w wB:=by have h:=HC.q6;rw[HE.o] at h;exact h
          exact⟨S2,H3.q1,hold.trans (ho.aK (λ g hg=>(Ym.q1 g hg).2.2.2) hold.size),HC.q4.only ho HC.q5,HC.t6.only ho (λ hs=>(Ym.q1 _ hs).2.2.1 rfl),λ hs=>(H3.t2 _ hs).elim (λ h=>(Ym.q1 _ h).2.2.1 rfl) (λ h=>by have :=HC.t6.lt;omega)⟩
         refine forget (λ Y=>∃S2,xC Y w.heap.size bb S2 r.1/\aZ w Y/\Bk Y vb #[M (O ⟨bb,0,U⟩)] 111/\Bk Y (pb+1) #[G U 0 0,G U 0 0] 56/\¬S2 (pb+1)) hY ?_;have HR:=dt HC.q2 HC.q3;clear hY H3 HC cf ZK;clear w3 S2;rintro Y ⟨S2,Pv,bI,EZ,hg,hSp⟩;obtain⟨F2,vk,wM,kn2,md2,lf2,Qc,FA⟩:=Pv;obtain⟨AN,cN,hvN,Kj,hmN⟩:=Qc.nodes.form;rw[bB] at hvN Kj;subst hvN;obtain⟨cb,LM⟩:=Qc.box.cl0;obtain⟨cv,lv⟩:=EZ.cl0;obtain⟨cg,lg⟩:=hg.cl0;have fg:=hg.free 0;have fg1:=hg.free 1;obtain⟨nn,Ud⟩:∃m,r.1.nodes.length=m:=⟨_,rfl⟩;rw[Ud] at cb;have nS:nn<=1099511627776:=by have :=HR.q2;omega
         have HY:=lQ Qc FA bI hg Ud;have hpw:w.heap.size<=pb+1:=by have :=HPB.o;omega
         clear Qc FA bI EZ hg Ud Kj hmN;by_cases TZ:20000<nn
         · as_aux_lemma=>
           have abr:(20000:Int)<(nn:Int):=ar;go_wp2_with fail;have hb2:=(HY.q4.aS 0 (G U 0 0)).aS 1 (G U 0 0);have ho:Only (λ g=>g=pb+1) Y ((Y.setCell ⟨pb+1,0,U⟩ (G U 0 0)).setCell ⟨pb+1,1,U⟩ (G U 0 0)):=((Only.refl (λ g=>g=pb+1) Y).aS (p:=⟨pb+1,0,U⟩) (.inl rfl) _).aS (p:=⟨pb+1,1,U⟩) (.inl rfl) _;refine bodyPost_ret (kB rfl rfl (wP hb2)) rfl ⟨HY.q3.trans (ho.aK (λ g hg=>by rw[hg];exact hpw) HY.q3.size),?_⟩
           have hct:20000<il (cA (bc rs) aP) 10:=by have h1:=Kt (Z:=bc rs) (eE:=iK rs) (live:=List.range k) (f:=f0);rw[HR.q1,HY.t4] at h1;omega
           rw[HF.o];exact .inl ⟨hct,rfl⟩
         · as_aux_lemma=>
           have abr:¬(20000:Int)<(nn:Int):=ar;have zZ:r.1.nodes.length<=20000:=by rw[HY.t4];omega
           have abI:cu (bc rs) (10 - 10) f0=List.range k:=by rw[show 10 - 10=0 from rfl,tS,HNZ.o]
           have gU:=FV (Z:=bc rs) (lim:=aP) (eE:=iK rs) (P8 rs) (c:=cA (bc rs) aP) (λ a live=>sS _ _ a live) 10 (ah _) f0 sU rfl (Yk _ _) (by rw[abI,HR.q1];exact zZ);rw[abI,HR.q1,show 10 - 10=0 from rfl] at gU;have abJ:=(uW (Z:=bc rs) (lim:=aP) (eE:=iK rs) 10 (List.range k) f0 sU (Um _)).1;rw[HR.q1] at abJ;have hM2:=gU.2;rw[<-HNZ.o] at hM2;have hTO:=Uj gU.1 abJ (iK rs f0) hM2 zZ rfl;have ey:=Qn r.1 S2 w.heap.size bb Y ⟨F2,_,wM,kn2,md2,lf2,HY.q1,HY.q2⟩ gU.1.ok (iK rs f0) r.2 gU.2.1 ar HR.q3 (jm r.1.nodes r.2) rfl;have HC:=dt ey hTO;clear gU abJ hM2 hTO ey abI;go_wp2_with (go_at_call 41;refine HC.q1.mono ?_;rintro e w4 ⟨A1,c1,A2,c2,rfl,z1,z2,z3,z4,z5⟩;have bg:=HY.q4.below z1;obtain⟨cg4,lg4⟩:=bg.cl0;have fg4:=bg.free 0;have fg5:=bg.free 1;have H4:=uF z1 z2 z3 z4 z5 bg;clear z1 z2 z3 z4 z5 bg);have hb2:=(H4.t5.aS 0 (G A1 (jm r.1.nodes r.2).length c1)).aS 1 (G A2 (kf r.1.nodes r.1.leaves (iK rs f0) (jm r.1.nodes r.2)).length c2);have ho:Only (λ g=>g=pb+1) w4 ((w4.setCell ⟨pb+1,0,U⟩ (G A1 (jm r.1.nodes r.2).length c1)).setCell ⟨pb+1,1,U⟩ (G A2 (kf r.1.nodes r.1.leaves (iK rs f0) (jm r.1.nodes r.2)).length c2)):=((Only.refl (λ g=>g=pb+1) w4).aS (p:=⟨pb+1,0,U⟩) (.inl rfl) _).aS (p:=⟨pb+1,1,U⟩) (.inl rfl) _;have hpl:=HY.q4.lt;obtain⟨F9,kT,hF9⟩:=H4.q2
           have aj9:=kT.only ho (λ g hg hf=>(hF9 g hf).elim (λ h=>hSp (by rw[<-hg];exact h)) (λ h=>by rw[hg] at h;omega)) (λ g hg e=>by have :=(kT.lt g hg).1;rw[e] at this;omega)
           have aka:=H4.q3.only ho (λ _ _=>ak _) (ak _) (λ g hg e=>by have :=(H4.q3.lt g hg).1;rw[e] at this;omega)
           refine bodyPost_ret (kB rfl rfl (wP hb2)) rfl ⟨(aq HY.q3 H4.q1).trans (ho.aK (λ g hg=>by rw[hg];exact hpw) (by have :=HY.q3.size;have :=H4.q1.size;omega)),?_⟩;rw[HF.o];refine .inr ⟨om r.1.nodes (jm r.1.nodes r.2),kf r.1.nodes r.1.leaves (iK rs f0) (jm r.1.nodes r.2),A1,c1,A2,c2,by rw[jO];rfl,aj9.elems,aka.elems (ak _) (ah _),by rw[jO];exact H4.q4,H4.q5,HC.t1⟩
end
end Go.Proofs.YtbcpcneadjcmlaaGreatDoor
