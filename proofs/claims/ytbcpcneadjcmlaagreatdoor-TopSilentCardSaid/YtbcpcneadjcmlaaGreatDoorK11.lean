import Derived.Test.YtbcpcneadjcmlaaGreatDoorK10
namespace Go.Proofs.YtbcpcneadjcmlaaGreatDoor
open Go.Proofs.Tryz
set_option maxRecDepth 100000
set_option maxHeartbeats 16000000
set_option linter.unusedVariables false
set_option linter.unusedSimpArgs false
open Value renaming int→I,slice→G,pointer→M
open IntKind renaming i64→J
open Option renaming some→O,none→U
open Go renaming Value→R,World→agb
section
open Go.RowKit Go.ChangeAt
attribute [local go_sem] aQ aC bW
theorem cG.take{α:Type}{T:Ty α}{w:agb}{B:Nat}{A:dB}{xs:List α}(h:cG T w B A xs)(k:Nat):cG T w B A (xs.take k):=by
 intro i hi;have hi':i<xs.length:=by rw[dh] at hi;omega
 have :=h i hi';rw[List.getElem_take];exact this
def rO(a b:BA0):Bool:=decide (a=b)
theorem PR(a b:BA0):(a.toList==b.toList)=rO a b:=by
 unfold rO;by_cases h:a=b
 · subst h;simp
 · rw[JT h,decide_eq_false h]
theorem Tc(kd:Int)(n1:BA0)(AW:dB)(k cw:Nat)(n rn rd sn sd fR:Int)(xb:Nat)(nm:BA0)(w:agb)(hc:w.cell? ⟨xb,1,U⟩=O (.string nm))(hl:xb<w.heap.size):
 Calls prog 26 #[.agg #[I J kd,.string n1,G AW k cw,I J n,I J rn,I J rd,I J sn,I J sd,I J fR],M (O ⟨xb,0,U⟩)] w (jL (.bool (rO n1 nm)) w):=by
 go_enter func26,ntmps26;go_wp2
 go_ret;exact⟨eu (PR _ _),aj _ _⟩
def ai1(w:agb)(r:Bool)(e:Ending)(w':agb):Prop:=(∃n:Int,e=.returned (I J n)/\ -1<=n/\n<=1000000/\decide (0<=n)=r)/\aZ w w'
theorem Mb{ls:List It}{k:Nat}{x:It}{nm:BA0}(h:ls[k]?=O x):(ls.take (k+1)).any (λ y=>rO y.2.1 nm)=((ls.take k).any (λ y=>rO y.2.1 nm)||rO x.2.1 nm):=by rw[bu,h,kJ];simp
theorem Mc{ls:List It}{k:Nat}{x:It}{nm:BA0}(h:ls[k]?=O x)(hx:rO x.2.1 nm=true):ls.any (λ y=>rO y.2.1 nm)=true:=by rw[eD];exact⟨x,az h,hx⟩
theorem PS(A:dB)(ls:List It)(cap xb:Nat)(nm:BA0)(w:agb)(B:Nat)(h:cG Fu w B A ls)(hB:B<=w.heap.size)(hc:w.cell? ⟨xb,1,U⟩=O (.string nm))(hl:xb<w.heap.size)(hn:ls.length<=1000000):
 Calls prog 75 #[G A ls.length cap,.func (.func 26) #[] #[M (O ⟨xb,0,U⟩)]] w (ai1 w (ls.any λ y=>rO y.2.1 nm)):=by
 have HH:=fH h hc hl;clear h hc hl;go_enter func75,ntmps75;go_wp2_with fail;go_loopw [5,8] (λ _ i wr=>∃k:Nat,k<=ls.length/\i=I J k/\(ls.take k).any (λ y=>rO y.2.1 nm)=false/\aZ w wr) (λ _ i _=>ls.length - (intOf i).toNat)
 case atStart=>exact⟨0,ar,rfl,rfl,aA _ _⟩
 case round=>
  obtain⟨k,hk,rfl,qj,hw⟩:=hrel;have hwr:=hw.size;by_cases hlt:k<ls.length
  · obtain⟨b,off,kd,n1,AW,ws,cw,n,rn,rd,sn,sd,fR,rfl,hb,Hk,d0,d1,d2,d3,d4,d5,d6,d7,d8,g1,g2,g3,f1,f2,f3,f4,f5,f6,f7,g4⟩:=xN (HH.q1.keep (hw.mono hB) (ah _)) hlt
    have kq:(k:Int)<(ls.length:Int):=ar;have bw:b<wr.heap.size:=ar;have Hc:=aG (show wr.cell? ⟨xb,1,U⟩=O (.string nm) from(hw.cell (p:=⟨xb,1,U⟩) HH.t2).trans HH.q2);have hlx:xb<wr.heap.size:=by have :=HH.t2;omega
    have hat:=Mb (nm:=nm) Hk.o;rw[qj,Bool.false_or] at hat;cases hs:rO n1 nm with
    |true=>
     have hst:=Mc (nm:=nm) Hk.o hs;have HW:=fH hw hst hs;clear hat hst hs hw qj g3 g4;go_wp2_with (go_at_call 26;refine(Tc _ _ _ _ _ _ _ _ _ _ _ xb nm _ Hc.o hlx).mono ?_;rw[HW.t2];rintro e w' ⟨rfl,hb2⟩;have Xr:=aG hb2;clear hb2);go_ret;exact⟨⟨k,rfl,ar,ar,by rw[HW.q2];simp⟩,HW.q1.trans (Xr.o.mono hwr)⟩
    |false=>
     have HW:=fH hw hat hs;clear hat hs hw qj g3 g4;go_wp2_with (go_at_call 26;refine(Tc _ _ _ _ _ _ _ _ _ _ _ xb nm _ Hc.o hlx).mono ?_;rw[HW.t2];rintro e w' ⟨rfl,hb2⟩;have Xr:=aG hb2;clear hb2);go_roundw
     case rel=>exact⟨k+1,ar,gC,by rw[HW.q2];exact HW.t2,HW.q1.trans (Xr.o.mono hwr)⟩
     case measure=>simp[intOf];omega
  · obtain rfl:k=ls.length:=ar
    rw[aX] at qj;have HW:=dt hw qj;clear hw qj;go_wp2_with fail;go_ret;exact⟨⟨-1,rfl,ar,ar,by rw[HW.t1];simp⟩,HW.q1⟩
theorem G7(A:dB)(ls:List It)(n cap xb:Nat)(nm:BA0)(w:agb)(B:Nat)(h:cG Fu w B A ls)(hB:B<=w.heap.size)(hc:w.cell? ⟨xb,1,U⟩=O (.string nm))(hl:xb<w.heap.size)(hn:ls.length<=1000000)(JC:ls.length=n)(r:Bool)(hr:(ls.any λ y=>rO y.2.1 nm)=r):
 Calls prog 25 #[G A n cap,.func (.func 26) #[] #[M (O ⟨xb,0,U⟩)]] w (jL (.bool r) w):=by
 subst JC;have HI:=aG (PS A ls cap xb nm w B h hB hc hl hn);clear h hc hl;go_enter func25,ntmps25;go_wp2_with (go_at_call 75;refine HI.o.mono ?_;rintro e w' ⟨⟨m,rfl,m1,m2,m3⟩,hb⟩;have H3:=dt m3 hb;clear m3 hb);go_ret;exact⟨eu (by rw[<-hr,<-H3.q1]),H3.t1⟩
def rlR(q:Rl)(v:R):List R:=[I J q.1,.string q.2.1,v,I J q.2.2.2.1,I J q.2.2.2.2.1.1,I J q.2.2.2.2.1.2,I J q.2.2.2.2.2.1,I J q.2.2.2.2.2.2]
def ai2(q:Rl):Prop:=q.2.1.size<=maxLen/\fits q.1/\fits q.2.2.2.1/\fits q.2.2.2.2.1.1/\fits q.2.2.2.2.1.2/\fits q.2.2.2.2.2.1/\fits q.2.2.2.2.2.2
def Di(X:agb)(cs:List R)(q:Rl):Prop:=∃A c,cs=rlR q (G A q.2.2.1.length c)/\cH nM 90 X 0 0 (G A q.2.2.1.length c) q.2.2.1/\ai2 q
theorem Di.only{X X':agb}{cs:List R}{q:Rl}{S:Nat->Prop}(h:Di X cs q)(ho:Only S X X')(hS:∀g,S g->∃C t,Bk X g C t/\t≠90):Di X' cs q:=by obtain⟨A,c,h1,h2,h3⟩:=h;refine⟨A,c,h1,FQ h2 ho (λ g hg hs=>?_),h3⟩;obtain⟨C,t,hb,hne⟩:=hS g hs;exact JY h2 hb hne hg.symm
def pL(X:agb)(base:Nat)(v:R)(qs:List Rl):Prop:=
 ∃css:List (List R),css.length=qs.length/\X.ownsRow base 48 8 v qs.length css.flatten/\∀i(h1:i<qs.length)(h2:i<css.length),Di X css[i] qs[i]
variable{X X':agb}{base:Nat}{v:R}{qs:List Rl}
theorem pL.nil:pL X base (G U 0 0) []:=⟨[],rfl,uK,λ i h=>by simp at h⟩
theorem pL.form(h:pL X base v qs):∃A c,v=G A qs.length c/\qs.length<=c/\c<=maxLen:=by obtain⟨css,_,h,_⟩:=h;exact fM h
theorem pL.lt(h:pL X base v qs):∀g,v.ownBlock=O g->base<=g/\g<X.heap.size:=by obtain⟨css,_,h,_⟩:=h;exact λ g hg=>jd h hg
theorem zu{w:agb}{base:Nat}{e:TypeId}{size:Nat}{v:R}{n:Nat}{xs:List R}(h:w.ownsRow base e size v n xs){g:Nat}(hg:v.ownBlock=O g):∃C,Bk w g C e:=by
 obtain⟨_,⟨rfl,_⟩|⟨g',cap,cur,rfl,_,h2,_⟩⟩:=h
 · simp[Value.ownBlock] at hg
 · simp only[Value.ownBlock,cQ] at hg
   subst hg;exact⟨cur,h2⟩
theorem pL.typed(h:pL X base v qs){g:Nat}(hg:v.ownBlock=O g):∃C,Bk X g C 48:=by obtain⟨css,_,h,_⟩:=h;exact zu h hg
theorem pL.only{S:Nat->Prop}(h:pL X base v qs)(ho:Only S X X')(hS:∀g,S g->∃C t,Bk X g C t/\t≠90)(hn:∀g,v.ownBlock=O g->¬S g):pL X' base v qs:=by obtain⟨css,h1,h2,h3⟩:=h;exact⟨css,h1,ee h2 ho hn,λ i a1 a2=>(h3 i a1 a2).only ho hS⟩
theorem pL.below(h:pL X base v qs)(hb:aZ X X'):pL X' base v qs:=
 h.only (S:=λ _=>False) (aw hb) (λ g hg=>hg.elim) (λ g _ hg=>hg)
theorem aep{B:Nat}{cs:List R}{q:Rl}(h:Di X cs q)(hB:X.heap.size<=B):se.rd X B cs q:=by
 obtain⟨A,c,rfl,h2,g1,g2,g3,g4,g5,g6,g7⟩:=h;obtain⟨A2,c2,e,k1,k2⟩:=h2.form;cases e
 exact⟨[_],_,rfl,⟨rfl,g2⟩,[_],_,rfl,⟨rfl,g1⟩,[_],_,rfl,⟨A,c,rfl,k1,k2,h2.elems (ak _) hB⟩,[_],_,rfl,⟨rfl,g3⟩,[_,_],[_,_],rfl,⟨[_],[_],rfl,⟨rfl,g4⟩,⟨rfl,g5⟩⟩,⟨[_],[_],rfl,⟨rfl,g6⟩,⟨rfl,g7⟩⟩⟩
theorem pL.elems{A:dB}{n c:Nat}(h:pL X base (G A n c) qs):ic se X A qs:=by
 obtain⟨css,h1,h2,h3⟩:=h;have EH:=h2;obtain⟨_,⟨e,hn⟩|⟨g,cap,cur,e,_,hb,_⟩⟩:=h2
 · cases e
   have :qs=[]:=lI.1 hn;subst this;exact cG.nil
 · cases e
   refine yP (base:=base) (e:=48) (css:=css) EH (Bk.lt hb) h1 (λ i hi=>aep (h3 i hi ar) (ah _))
section
variable{ops:Array Oper}{rest:List Oper}{o:Oper}{a:Act}{Q:lC}
theorem yc(hgd:o.guard=U)(s x:Operand)(ho:o.op=.call {callee:=.builtin .append,args:=#[s,x],argTypes:=#[36,36]})
 (hs:a.eval s=v)(hown:pL X base v qs)(A:dB)(c:Nat)(cs:List R)(q:Rl)(hx:a.eval x=G A 1 c)(hsrc:Cn X A 1 cs)(hq:Di X cs q)(h63:qs.length<=1000)(hbase:base<=X.heap.size)
 (h:∀A' c' w',pL w' base (G A' (qs.length+1) c') (qs++[q])->Below base X w'->Only (λ g=>v.ownBlock=O g) X w'->wpList prog ops Q rest (a.put o.dst (G A' (qs.length+1) c')) w'):wpList prog ops Q (o::rest) a X:=by
 obtain⟨css,h1,h2,h3⟩:=hown;obtain⟨i,z,hi,hz,hsz,hby,hzs⟩:=kU (P:=prog) (e:=48) (size:=8) (bytes:=88) (c:=8) aV;have hlc:cs.length=8:=by obtain⟨_,_,rfl,_⟩:=hq;rfl
 refine iG hgd s x 36 ho base 48 i z 8 88 rq hi hz hsz hby hzs cj qs.length css.flatten hs h2 A 1 c cs hx ar hsrc ?_ (by unfold maxLen;omega) ar hbase (qs.length+1) (css++[cs]).flatten rfl bY ?_
 · obtain⟨A,c,rfl,_⟩:=hq
   intro u hu;simp only[rlR,aR,bH,or_false] at hu;rcases hu with rfl|rfl|rfl|rfl|rfl|rfl|rfl|rfl<;>rfl
 · intro A' c' w' g1 g2 g3 g4
   have ho:Only (λ g=>v.ownBlock=O g) X w':=(Only.refl _ _).grown g3 (λ g e=>.inl e);refine h A' c' w' ⟨css++[cs],by simp[h1],by simpa using g1,λ i a1 a2=>?_⟩ g2 ho
   have key:∀{cs':List R}{q':Rl},Di X cs' q'->Di w' cs' q':=λ hh=>hh.only ho (λ g hg=>by obtain⟨C,hC⟩:=zu h2 hg;exact⟨C,_,hC,cj⟩)
   by_cases hlt:i<qs.length
   · rw[fO ar,fO ar]
     exact key (h3 i hlt ar)
   · have :i=qs.length:=by simp at a1;omega
     subst this;rw[fG ar,fG ar];simpa [h1] using key hq
end
abbrev V9:Ty Fa:=fy dr (fy dr dr)
theorem Td:∀(w:agb)(B:Nat)(cs:List R)(x:Fa),V9.rd w B cs x->∀u∈cs,u.oneCell'=true:=by rintro w B cs x ⟨c1,r1,rfl,⟨rfl,_⟩,⟨c2,r2,rfl,⟨rfl,_⟩,⟨rfl,_⟩⟩⟩ u hu;simp at hu;rcases hu with rfl|rfl|rfl<;>rfl
theorem Zv(w:agb)(B:Nat){a b c:Int}(h1:fits a)(h2:fits b)(h3:fits c):V9.rd w B [I J a,I J b,I J c] (a,b,c):=⟨[_],[_,_],rfl,⟨rfl,h1⟩,⟨[_],[_],rfl,⟨rfl,h2⟩,⟨rfl,h3⟩⟩⟩
theorem sJ{α:Type}{T:Ty α}{e:TypeId}{B:Nat}{qs:List α}(h:cH T e X base B v qs){g:Nat}(hg:v.ownBlock=O g):∃C,Bk X g C e:=by obtain⟨css,_,_,h⟩:=h;exact zu h hg
end
end Go.Proofs.YtbcpcneadjcmlaaGreatDoor
