import Derived.Test.YtbcpcneadjcmlaaGreatDoorK16
namespace Go.Proofs.YtbcpcneadjcmlaaGreatDoor
open Go.Proofs.Tryz
set_option maxRecDepth 100000
set_option maxHeartbeats 16000000
set_option linter.unusedVariables false
set_option linter.unusedSimpArgs false
open Value renaming int→I,slice→G,pointer→M
open IntKind renaming i64→J
open Option renaming some→O,none→U
open Go renaming Value→R,World→agb
section
open Go.RowKit Go.Maps
theorem TX{f:Fc}{k:Nat}(v:Int):(iw f).setIfInBounds k (I J v)=iw (f.set k v):=by unfold iw oI;simp
theorem Sm.fwd{Z:List Zn}{eE:Fc->Dk}{k:Nat}{live:List Nat}{f:Fc}{S1 S2:List Int}{K:Bs Dk×List Int×List Nat}(h:Sm (gF Z aP eE k live f (S1++S2) K).1):Sm (gF Z aP eE k live f S1 K).1:=by
 have e:gF Z aP eE k live f (S1++S2) K=gF Z aP eE k live f S2 (gF Z aP eE k live f S1 K):=by unfold gF;rw[List.foldl_append]
 rw[e] at h;exact h.back (yj (n:=il (cA Z aP) k) (live:=live) (f:=f) (mr (λ a live=>sS Z aP a live) k) S2 _)
theorem DN{Z:List Zn}{eE:Fc->Dk}{k:Nat}{live:List Nat}{f:Fc}{S:List Int}{K:Bs Dk×List Int×List Nat}{j:Nat}{c:Int}(h:S[j]?=O c):
 gF Z aP eE k live f (S.take (j+1)) K=jX (gF Z aP eE k live f (S.take j) K) c (eZ Z aP eE k (gg Z (9 - k) live c) (f.set (9 - k) c) (gF Z aP eE k live f (S.take j) K).1):=by
 rw[bu,h];unfold gF;rw[List.foldl_append];rfl
section
variable{Z:List Zn}{eE:Fc->Dk}{k:Nat}{live:List Nat}{f:Fc}{s:Bs Dk}
theorem TY(h:Sm (eZ Z aP eE (k+1) live f s).1)(hm:s.made (live,9 - k)=U)(TZ:¬20000<s.nodes.length):Sm (eN (gF Z aP eE k live f (stA Z aP (9 - k) live) (s,[],[])) (9 - k)).1:=by rw[rQ hm TZ] at h;exact h.back (Dl _ _ _)
theorem XS(h:Sm (eZ Z aP eE (k+1) live f s).1)(hm:s.made (live,9 - k)=U)(TZ:¬20000<s.nodes.length)(j:Nat):Sm (gF Z aP eE k live f ((stA Z aP (9 - k) live).take j) (s,[],[])).1:=by have h1:=(TY h hm TZ).back (sM _ _);rw[<-ia j (stA Z aP (9 - k) live)] at h1;exact h1.fwd
theorem abi(h:Sm (eZ Z aP eE (k+1) live f s).1)(hm:s.made (live,9 - k)=U)(TZ:¬20000<s.nodes.length){j:Nat}{c:Int}(hc:(stA Z aP (9 - k) live)[j]?=O c):
 Sm (eZ Z aP eE k (gg Z (9 - k) live c) (f.set (9 - k) c) (gF Z aP eE k live f ((stA Z aP (9 - k) live).take j) (s,[],[])).1).1:=by
 have h1:=XS h hm TZ (j+1);rw[DN hc,rR] at h1;exact h1
theorem Ko{S:List Int}{K:Bs Dk×List Int×List Nat}(h:S≠ []\/K.2.2≠ []):(gF Z aP eE k live f S K).2.2≠ []:=by
 induction S generalizing K with
 |nil=>exact h.elim (λ h=>absurd rfl h) id
 |cons c S ih=>
  refine ih (.inr ?_);show(jX K c _).2.2≠ [];unfold jX;split
  · rename_i hl
    intro e;have e':K.2.2=[]:=e;rw[e'] at hl;cases hl
  · simp
theorem Gb{S:List Int}{K:Bs Dk×List Int×List Nat}:(gF Z aP eE k live f S K).2.1.length<=K.2.1.length+S.length/\(gF Z aP eE k live f S K).2.2.length<=K.2.2.length+S.length:=by
 induction S generalizing K with
 |nil=>exact⟨ah _,ah _⟩
 |cons c S ih=>
  obtain⟨h1,h2⟩:= @ih (jX K c (eZ Z aP eE k (gg Z (9 - k) live c) (f.set (9 - k) c) K.1));have e:gF Z aP eE k live f (c::S) K=gF Z aP eE k live f S (jX K c (eZ Z aP eE k (gg Z (9 - k) live c) (f.set (9 - k) c) K.1)):=rfl;rw[e];generalize eZ Z aP eE k (gg Z (9 - k) live c) (f.set (9 - k) c) K.1=r at *
  have h3:(jX K c r).2.1.length<=K.2.1.length+1/\(jX K c r).2.2.length<=K.2.2.length+1:=by
   unfold jX;split
   · exact⟨bY,bY⟩
   · refine⟨?_,bY⟩
     show(if K.2.2=[] then K.2.1 else K.2.1++[c]).length<=_;split<;>simp
  simp only[bD];omega
theorem Om(h:VB Z aP s)(j:Nat):KB Z aP (9 - k) (gF Z aP eE k live f ((stA Z aP (9 - k) live).take j) (s,[],[])):=
 DK (live0:=live) (uW k) _ (s,[],[]) (λ c hc=>Oh (jB hc)) ⟨h,λ q hq=>absurd hq bY,λ c hc=>absurd hc bY⟩
end
theorem DO{Z:List Zn}{a:Nat}{live:List Nat}{c:Int}{m z:Nat}(h:live[m]?=O z):gg Z a (live.take (m+1)) c=gg Z a (live.take m) c++if r8 (atR (dK Z z) a) c then [z] else []:=by
 unfold gg;rw[bu,h,gQ];congr 1
 simp[jU]
theorem cH.weaken{α:Type}{T:Ty α}{e:TypeId}{X:agb}{base b2 B:Nat}{v:R}{xs:List α}(h:cH T e X base B v xs)(hb:b2<=base):cH T e X b2 B v xs:=by
 obtain⟨css,h1,h2,h3⟩:=h;refine⟨css,h1,h2,h3.1,?_⟩;rcases h3.2 with q|⟨g,cap,cur,q1,q2,q3⟩
 · exact .inl q
 · exact .inr ⟨g,cap,cur,q1,bm hb q2,q3⟩
structure DR(E:En)(w W:agb)(bb nb at_:Nat)(f:Fc)(vS:R)(pR:List Int)(S:Nat->Prop)(K:Bs Dk×List Int×List Nat)(S':Nat->Prop)(vC vK:R)(fc:Fc)(X:agb):Prop where
 b:xC X E.base bb S' K.1
 new:∀g,S' g->S g\/W.heap.size<=g
 only :Only S w X
 fb:Bk X w.heap.size (iw fc) 31
 fl:fc.length=10
 fs:∀c,fc.set at_ c=f.set at_ c
 ff:∀x∈fc,fits x
 Ca:Bk X nb #[I J at_,vC,vK,I J 0] 121
 cJ:cH dr 3 X W.heap.size 0 vC K.2.1
 kids:cH dr 3 X W.heap.size 0 vK (cV K.2.2)
 st:cH dr 3 X W.heap.size 0 vS pR
 Qd:∀g,vC.ownBlock=O g->vK.ownBlock≠O g/\vS.ownBlock≠O g/\¬S' g
 XT:∀g,vK.ownBlock=O g->vS.ownBlock≠O g/\¬S' g
 ap3:∀g,vS.ownBlock=O g->¬S' g
 ZH:¬S' nb
 apf:¬S' w.heap.size
 Wf:W.heap.size<=nb
 wW:w.heap.size<W.heap.size
 size:W.heap.size<=X.heap.size
section
variable{E:En}{w W X X':agb}{bb nb at_:Nat}{f fc:Fc}{vS vC vK:R}{pR:List Int}{S S' T:Nat->Prop}{K:Bs Dk×List Int×List Nat}
theorem iT{e:TypeId}{base B:Nat}{v:R}{xs:List Int}(h:cH dr e X base B v xs){g t:Nat}{C:Array R}(hb:Bk X g C t)(hne:e≠t):∀g',v.ownBlock=O g'->g'≠g:=λ g' hg e'=>by obtain⟨C',hC⟩:=uw h hg;subst e';exact hne (fK hC hb)
theorem DR.keep(h:DR E w W bb nb at_ f vS pR S K S' vC vK fc X)(hb:aZ X X'):DR E w W bb nb at_ f vS pR S K S' vC vK fc X':=
 ⟨h.b.below hb,h.new,h.only.trans' (T:=λ _=>False) (aw hb) (λ _ h=>h.elim),h.fb.below hb,h.fl,h.fs,h.ff,h.Ca.below hb,h.cJ.below hb (ak _),h.kids.below hb (ak _),h.st.below hb (ak _),h.Qd,h.XT,h.ap3,h.ZH,h.apf,h.Wf,h.wW,bm h.size hb.size⟩
theorem DR.Qe(h:DR E w W bb nb at_ f vS pR S K S' vC vK fc X){c:Int}(hc:fits c):DR E w W bb nb at_ f vS pR S K S' vC vK (f.set at_ c) (X.setCell ⟨w.heap.size,at_,U⟩ (I J c)):=by
 have ho:Only (λ g=>g=w.heap.size) X (X.setCell ⟨w.heap.size,at_,U⟩ (I J c)):=(Only.refl (λ g=>g=w.heap.size) X).aS (p:=⟨w.heap.size,at_,U⟩) (.inl rfl) _
 have hn:∀{v:R}{xs:List Int},cH dr 3 X W.heap.size 0 v xs->∀g,v.ownBlock=O g->¬g=w.heap.size:=λ h1 g hg e=>by have :=(h1.lt g hg).1;have :=h.wW;omega
 have qI:=h.fb.aS at_ (I J c);rw[TX,h.fs] at qI;refine⟨h.b.only ho (λ g e hs=>h.apf (by rw[<-e];exact hs)),h.new,h.only.trans' ho (λ g e=>.inr (Nat.le_of_eq e.symm)),qI,?_,λ d=>?_,λ x hx=>?_,h.Ca.only ho (λ e=>?_),h.cJ.only ho (λ _ _=>ak _) (ak _) (hn h.cJ),h.kids.only ho (λ _ _=>ak _) (ak _) (hn h.kids),h.st.only ho (λ _ _=>ak _) (ak _) (hn h.st),h.Qd,h.XT,h.ap3,h.ZH,h.apf,h.Wf,h.wW,bm h.size ho.size⟩
 · rw[<-h.fs,mD];exact h.fl
 · rw[List.set_set]
 · rw[<-h.fs] at hx
   rcases List.mem_or_eq_of_mem_set hx with hx|rfl
   · exact h.ff x hx
   · exact hc
 · have :=h.Wf
   have :=h.wW;omega
theorem DR.call(h:DR E w W bb nb at_ f vS pR S K S' vC vK fc X){s2:Bs Dk}{S2:Nat->Prop}(hB:xC X' E.base bb S2 s2)(ho:Only S' X X')(hn:∀g,S2 g->S' g\/X.heap.size<=g):DR E w W bb nb at_ f vS pR S (s2,K.2.1,K.2.2) S2 vC vK fc X':=by have hw:∀g,g<X.heap.size->¬S' g->¬S2 g:=λ g h1 h2 h3=>(hn g h3).elim h2 (λ q=>ar);have hz:=h.only.size;refine⟨hB,λ g hg=>(hn g hg).elim (h.new g) (λ q=>.inr (bm h.size q)),h.only.trans' ho (λ g hg=>(h.new g hg).imp id (λ q=>by have :=h.wW;omega)),h.fb.only ho h.apf,h.fl,h.fs,h.ff,h.Ca.only ho h.ZH,h.cJ.only ho (λ _ _=>ak _) (ak _) (λ g hg=>(h.Qd g hg).2.2),h.kids.only ho (λ _ _=>ak _) (ak _) (λ g hg=>(h.XT g hg).2),h.st.only ho (λ _ _=>ak _) (ak _) h.ap3,λ g hg=>⟨(h.Qd g hg).1,(h.Qd g hg).2.1,hw g (h.cJ.lt g hg).2 (h.Qd g hg).2.2⟩,λ g hg=>⟨(h.XT g hg).1,hw g (h.kids.lt g hg).2 (h.XT g hg).2⟩,λ g hg=>hw g (h.st.lt g hg).2 (h.ap3 g hg),hw nb h.Ca.lt h.ZH,hw _ h.fb.lt h.apf,h.Wf,h.wW,bm h.size ho.size⟩
theorem DR.cut(h:DR E w W bb nb at_ f vS pR S K S' vC vK fc X){c:Int}{A9:dB}{c9 n9:Nat}{w9:agb}(iO:cH dr 3 w9 W.heap.size 0 (G A9 n9 c9) (K.2.1++[c]))(kH:Only (λ g=>vC.ownBlock=O g) X w9)(kT:∀g,(G A9 n9 c9).ownBlock=O g->vC.ownBlock=O g\/X.heap.size<=g):
 DR E w W bb nb at_ f vS pR S (K.1,K.2.1++[c],K.2.2) S' (G A9 n9 c9) vK fc (w9.setCell ⟨nb,1,U⟩ (G A9 n9 c9)):=by
 have Kp:Bk w9 nb #[I J at_,vC,vK,I J 0] 121:=h.Ca.only kH (λ e=>iT h.cJ h.Ca cj nb e rfl);have ho:Only (λ g=>vC.ownBlock=O g\/g=nb) X (w9.setCell ⟨nb,1,U⟩ (G A9 n9 c9)):=(kH.mono λ g e=>.inl e).aS (p:=⟨nb,1,U⟩) (.inl (.inr rfl)) _;have Mz:Only (λ g=>g=nb) w9 (w9.setCell ⟨nb,1,U⟩ (G A9 n9 c9)):=(Only.refl (λ g=>g=nb) w9).aS (p:=⟨nb,1,U⟩) (.inl rfl) _;have kY:∀g,(G A9 n9 c9).ownBlock=O g->¬g=nb:=λ g hg e=>iT iO Kp cj g hg e;have hbS:=h.b.lt;refine⟨h.b.only ho (λ g hg hs=>hg.elim (λ e=>(h.Qd g e).2.2 hs) (λ e=>h.ZH (by rw[<-e];exact hs))),h.new,h.only.trans' ho (λ g hg=>.inr (hg.elim (λ e=>?_) (λ e=>?_))),h.fb.only ho (λ hg=>hg.elim (λ e=>?_) (λ e=>?_)),h.fl,h.fs,h.ff,Kp.aS 1 _,iO.only Mz (λ _ _=>ak _) (ak _) kY,h.kids.only ho (λ _ _=>ak _) (ak _) (λ g hg hq=>hq.elim (λ e=>(h.Qd g e).1 hg) (λ e=>iT h.kids h.Ca cj g hg e)),h.st.only ho (λ _ _=>ak _) (ak _) (λ g hg hq=>hq.elim (λ e=>(h.Qd g e).2.1 hg) (λ e=>iT h.st h.Ca cj g hg e)),λ g hg=>?_,h.XT,h.ap3,h.ZH,h.apf,h.Wf,h.wW,bm h.size ho.size⟩
 · have :=(h.cJ.lt g e).1
   have :=h.wW;omega
 · have :=h.Wf
   have :=h.wW;omega
 · have :=(h.cJ.lt _ e).1
   have :=h.wW;omega
 · have :=h.Wf
   have :=h.wW;omega
 · rcases kT g hg with q|q
   · exact h.Qd g q
   · refine⟨λ e=>?_,λ e=>?_,λ e=>?_⟩
     · have :=(h.kids.lt g e).2;omega
     · have :=(h.st.lt g e).2;omega
     · have :=hbS g e;omega
theorem DR.kid(h:DR E w W bb nb at_ f vS pR S K S' vC vK fc X){c:Nat}{A9:dB}{c9 n9:Nat}{w9:agb}(iO:cH dr 3 w9 W.heap.size 0 (G A9 n9 c9) (cV K.2.2++[(c:Int)]))(kH:Only (λ g=>vK.ownBlock=O g) X w9)(kT:∀g,(G A9 n9 c9).ownBlock=O g->vK.ownBlock=O g\/X.heap.size<=g):
 DR E w W bb nb at_ f vS pR S (K.1,K.2.1,K.2.2++[c]) S' vC (G A9 n9 c9) fc (w9.setCell ⟨nb,2,U⟩ (G A9 n9 c9)):=by
 have Kp:Bk w9 nb #[I J at_,vC,vK,I J 0] 121:=h.Ca.only kH (λ e=>iT h.kids h.Ca cj nb e rfl);have ho:Only (λ g=>vK.ownBlock=O g\/g=nb) X (w9.setCell ⟨nb,2,U⟩ (G A9 n9 c9)):=(kH.mono λ g e=>.inl e).aS (p:=⟨nb,2,U⟩) (.inl (.inr rfl)) _;have Mz:Only (λ g=>g=nb) w9 (w9.setCell ⟨nb,2,U⟩ (G A9 n9 c9)):=(Only.refl (λ g=>g=nb) w9).aS (p:=⟨nb,2,U⟩) (.inl rfl) _;have kY:∀g,(G A9 n9 c9).ownBlock=O g->¬g=nb:=λ g hg e=>iT iO Kp cj g hg e;have hbS:=h.b.lt;have e9:cV K.2.2++[(c:Int)]=cV (K.2.2++[c]):=by simp[cV]
 rw[e9] at iO;refine⟨h.b.only ho (λ g hg hs=>hg.elim (λ e=>(h.XT g e).2 hs) (λ e=>h.ZH (by rw[<-e];exact hs))),h.new,h.only.trans' ho (λ g hg=>.inr (hg.elim (λ e=>?_) (λ e=>?_))),h.fb.only ho (λ hg=>hg.elim (λ e=>?_) (λ e=>?_)),h.fl,h.fs,h.ff,Kp.aS 2 _,h.cJ.only ho (λ _ _=>ak _) (ak _) (λ g hg hq=>hq.elim (λ e=>(h.Qd g hg).1 e) (λ e=>iT h.cJ h.Ca cj g hg e)),iO.only Mz (λ _ _=>ak _) (ak _) kY,h.st.only ho (λ _ _=>ak _) (ak _) (λ g hg hq=>hq.elim (λ e=>(h.XT g e).1 hg) (λ e=>iT h.st h.Ca cj g hg e)),λ g hg=>⟨λ e=>?_,(h.Qd g hg).2⟩,λ g hg=>?_,h.ap3,h.ZH,h.apf,h.Wf,h.wW,bm h.size ho.size⟩
 · have :=(h.kids.lt g e).1
   have :=h.wW;omega
 · have :=h.Wf
   have :=h.wW;omega
 · have :=(h.kids.lt _ e).1
   have :=h.wW;omega
 · have :=h.Wf
   have :=h.wW;omega
 · rcases kT g e with q|q
   · exact(h.Qd g hg).1 q
   · have :=(h.cJ.lt g hg).2;omega
 · rcases kT g hg with q|q
   · exact h.XT g q
   · refine⟨λ e=>?_,λ e=>?_⟩
     · have :=(h.st.lt g e).2;omega
     · have :=hbS g e;omega
end
end
section
open Go.RowKit Go.Maps
attribute [local go_sem] aQ aC bW
section
variable{P:Program}{w:World}{a:Addr}{m:Mode}
theorem jC(f:Fn)(xs ys:Array Value):(store a (.func f xs ys) m).run P w=stored P w a (.func f xs ys) m:=run_store P w a _ m rfl
end
attribute [local go_sem] jC
theorem DT(l:List Nat):(cV l).length=l.length:=by simp[cV]
theorem uA:Keyed prog 3:=int_keyed aJ
def vn(n:Nat):Lit:=.int .i64 (n:Int)
theorem DU:∀x y,vn x=vn y->x=y:=λ x y h=>by
 unfold vn at h;injection h with _ h
 omega
theorem XU{n:Nat}(h:n<=1099511627776):keyOf prog 3 (.int .i64 (n:Int))=some (vn n):=
 keyOf_int_mk aJ (wfI (by unfold fits;omega))
def tz(eP:List Nat):Nat->Option Bool:=λ n=>if n∈eP then some true else none
theorem Gc(eP:List Nat)(n:Nat):u7 (tz eP) n true=tz (eP++[n]):=by
 funext x
 unfold u7 tz;by_cases h:x=n
 · rw[if_pos h,if_pos (by simp[h])]
 · rw[if_neg h]
   by_cases hx:x∈eP
   · rw[if_pos hx,if_pos (by simp[hx])]
   · rw[if_neg hx,if_neg (by simp[hx,h])]
def uX(N:List Nd):Prop:=∀n c,n<N.length->c∈eR N n->c<N.length
theorem T1{N:List Nd}{n:Nat}{nd:Nd}(h:N[n]?=some nd):(N.map pA)[n]?=some (pA nd):=by rw[bQ,h];rfl
theorem mS{w:World}{B:Nat}{A:dB}{N:List Nd}(h:cG vH w B A (N.map pA)){n:Nat}{nd:Nd}(hn:N[n]?=some nd):
 ∃b off A1 c1 A2 c2,A=some ⟨b,off,none⟩/\b<B/\w.cell? ⟨b,off+n*4,none⟩=some (.int .i64 nd.attr)/\w.cell? ⟨b,off+n*4+1,none⟩=some (.slice A1 nd.cJ.length c1)/\w.cell? ⟨b,off+n*4+2,none⟩=some (.slice A2 nd.kids.length c2)/\w.cell? ⟨b,off+n*4+3,none⟩=some (.int .i64 nd.leaf)/\
  cG dr w B A1 nd.cJ/\cG dr w B A2 (cV nd.kids)/\(nd.cJ.length<=c1/\c1<=maxLen)/\(nd.kids.length<=c2/\c2<=maxLen)/\fits nd.attr/\fits nd.leaf:=by
 have hl:n<(N.map pA).length:=by rw[bB];exact(ai.1 hn).1
 obtain⟨b,off,x,cs,hA,hb,_,hx,_,hr,hc⟩:=h.pick hl;rw[T1 hn] at hx;have XP:=aO hx;subst XP;obtain⟨k1,k2,rfl,⟨rfl,f1⟩,k3,k4,rfl,⟨A1,c1,rfl,q1,q2,q3⟩,k5,k6,rfl,⟨A2,c2,rfl,r1,r2,r3⟩,⟨rfl,f2⟩⟩:=hr;have h0:=hc 0 _ rfl;have h1:=hc 1 _ rfl;have h2:=hc 2 _ rfl;have h3:=hc 3 _ rfl;have e:(cV nd.kids).length=nd.kids.length:=by simp[cV]
 have r1':(cV nd.kids).length<=c2:=r1;have EH:w.cell? ⟨b,off+n*4+2,none⟩=some (.slice A2 (cV nd.kids).length c2):=h2;rw[e] at r1' EH;exact⟨b,off,A1,c1,A2,c2,hA,hb,h0,h1,EH,h3,q3,r3,⟨q1,q2⟩,⟨r1',r2⟩,f1,f2⟩
structure tM(w:World)(N:List Nd)(A:dB)(cap sb vb nb ib mb:Nat)(fv:Value)(eP:List Nat)(X:World):Prop where
 low:aZ w X
 Rm:Bk X sb #[.map (some mb)] 251
 Wh:Bk X vb #[fv] 158
 nb_:Bk X nb #[.slice A N.length cap] 53
 Oo:Bk X ib #[.func (.func 171) #[] #[.pointer (some ⟨sb,0,none⟩),.pointer (some ⟨vb,0,none⟩),.pointer (some ⟨nb,0,none⟩),.pointer (some ⟨ib,0,none⟩)]] 158
 map:iI vn prog 3 4 X mb eP.length (tz eP)
 nodup:eP.Nodup
 lt:∀m∈eP,m<N.length
 far:w.heap.size<=mb
theorem tM.aeL{w X:World}{N:List Nd}{A:dB}{cap sb vb nb ib mb:Nat}{fv:Value}{eP:List Nat}(h:tM w N A cap sb vb nb ib mb fv eP X):sb≠mb/\vb≠mb/\nb≠mb/\ib≠mb:=by
 have key:∀{g:Nat}{C:Array Value}{t:TypeId},Bk X g C t->g≠mb:=λ hb e=>by subst e;obtain⟨aak,⟨es,clock,hh,_⟩,_⟩:=h.map;have :=aO (hh.symm.trans hb);cases this
 exact⟨key h.Rm,key h.Wh,key h.nb_,key h.Oo⟩
def XV(sb vb nb ib mb:Nat):Nat->Prop:=λ g=>g=sb\/g=vb\/g=nb\/g=ib\/g=mb
theorem tM.only{w X X':World}{N:List Nd}{A:dB}{cap sb vb nb ib mb:Nat}{fv:Value}{eP:List Nat}{T:Nat->Prop}(h:tM w N A cap sb vb nb ib mb fv eP X)(ho:Only T X X')(hT:∀g,T g->w.heap.size<=g/\¬XV sb vb nb ib mb g):tM w N A cap sb vb nb ib mb fv eP X':=
 ⟨h.low.trans (ho.aK (λ g hg=>(hT g hg).1) h.low.size),h.Rm.only ho (λ hg=>(hT _ hg).2 (.inl rfl)),h.Wh.only ho (λ hg=>(hT _ hg).2 (.inr (.inl rfl))),h.nb_.only ho (λ hg=>(hT _ hg).2 (.inr (.inr (.inl rfl)))),h.Oo.only ho (λ hg=>(hT _ hg).2 (.inr (.inr (.inr (.inl rfl))))),h.map.only ho (λ hg=>(hT _ hg).2 (.inr (.inr (.inr (.inr rfl))))),h.nodup,h.lt,h.far⟩
theorem DV(w X:World)(N:List Nd)(A:dB)(cap zb:Nat)(fv:Value)(hz:X.heap.size=zb)(hX:aZ w X):
 tM w N A cap (zb+1+1+1) (zb+1) zb (zb+1+1+1+1) (zb+1+1) fv [] (((((X.alloc (.cells #[.slice A N.length cap] 53)).alloc (.cells #[fv] 158)).alloc (.map #[] 0)).alloc (.cells #[.map (some (zb+1+1))] 251)).alloc (.cells #[.func (.func 171) #[] #[.pointer (some ⟨zb+1+1+1,0,none⟩),.pointer (some ⟨zb+1,0,none⟩),.pointer (some ⟨zb,0,none⟩),.pointer (some ⟨zb+1+1+1+1,0,none⟩)]] 158))/\
 aZ X (((((X.alloc (.cells #[.slice A N.length cap] 53)).alloc (.cells #[fv] 158)).alloc (.map #[] 0)).alloc (.cells #[.map (some (zb+1+1))] 251)).alloc (.cells #[.func (.func 171) #[] #[.pointer (some ⟨zb+1+1+1,0,none⟩),.pointer (some ⟨zb+1,0,none⟩),.pointer (some ⟨zb,0,none⟩),.pointer (some ⟨zb+1+1+1+1,0,none⟩)]] 158)):=by
 obtain⟨X1,h1⟩:∃Y,Y=X.alloc (.cells #[.slice A N.length cap] 53):=⟨_,rfl⟩;obtain⟨X2,h2⟩:∃Y,Y=X1.alloc (.cells #[fv] 158):=⟨_,rfl⟩;obtain⟨X3,h3⟩:∃Y,Y=X2.alloc (.map #[] 0):=⟨_,rfl⟩;obtain⟨X4,h4⟩:∃Y,Y=X3.alloc (.cells #[.map (some (zb+1+1))] 251):=⟨_,rfl⟩;obtain⟨X5,h5⟩:∃Y,Y=X4.alloc (.cells #[.func (.func 171) #[] #[.pointer (some ⟨zb+1+1+1,0,none⟩),.pointer (some ⟨zb+1,0,none⟩),.pointer (some ⟨zb,0,none⟩),.pointer (some ⟨zb+1+1+1+1,0,none⟩)]] 158):=⟨_,rfl⟩;rw[<-h1,<-h2,<-h3,<-h4,<-h5];have s1:X1.heap.size=zb+1:=by rw[h1];simp[hz]
 have s2:X2.heap.size=zb+1+1:=by rw[h2];simp[s1]
 have s3:X3.heap.size=zb+1+1+1:=by rw[h3];simp[s2]
 have s4:X4.heap.size=zb+1+1+1+1:=by rw[h4];simp[s3]
 have b1:Bk X5 zb #[.slice A N.length cap] 53:=by rw[h5,h4,h3,h2,h1];exact((((au X zb _ _ hz).alloc _).alloc _).alloc _).alloc _
 have b2:Bk X5 (zb+1) #[fv] 158:=by rw[h5,h4,h3,h2];exact(((au X1 _ _ _ s1).alloc _).alloc _).alloc _
 have b4:Bk X5 (zb+1+1+1) #[.map (some (zb+1+1))] 251:=by rw[h5,h4];exact(au X3 _ _ _ s3).alloc _
 have b5:Bk X5 (zb+1+1+1+1) #[.func (.func 171) #[] #[.pointer (some ⟨zb+1+1+1,0,none⟩),.pointer (some ⟨zb+1,0,none⟩),.pointer (some ⟨zb,0,none⟩),.pointer (some ⟨zb+1+1+1+1,0,none⟩)]] 158:=by rw[h5];exact au X4 _ _ _ s4
 have b3:iI vn prog 3 4 X5 (zb+1+1) 0 (λ _=>none):=by
  have h:=iI.new vn prog 3 4 X2;rw[<-h3,s2] at h;have hb:aZ X3 X5:=by rw[h5,h4];exact ay (aj _ _) _
  exact h.below hb
 have hw5:aZ X X5:=by rw[h5,h4,h3,h2,h1];exact ay (ay (ay (ay (aj _ _) _) _) _) _
 have hwz:=hX.size;refine⟨⟨aq hX hw5,b4,b2,b1,b5,?_,List.nodup_nil,λ m h=>absurd h bY,ar⟩,hw5⟩;have e:tz []=λ _=>none:=by funext x;simp[tz]
 rw[e];exact b3
structure Gd(Inv:List Nat->(Nat->Prop)->World->Prop):Prop where
 only :∀{eP VS X X'}{T:Nat->Prop},Inv eP VS X->Only T X X'->(∀g,T g->¬VS g)->Inv eP VS X'
 lt:∀{eP VS X},Inv eP VS X->∀g,VS g->g<X.heap.size
section
variable(w:World)(N:List Nd)(Inv:List Nat->(Nat->Prop)->World->Prop)(p1 p2:Nat)
def Ic:Prop:=∀eP VS n X,Inv eP VS X->(∀g,VS g->w.heap.size<=g)->n∉eP->n<N.length->aZ w X->eP.length<N.length->Calls prog 89 #[.int .i64 (n:Nat),.pointer (some ⟨p1,0,none⟩),.pointer (some ⟨p2,0,none⟩)] X λ e X'=>e=.returned (.tuple #[])/\∃IM,Inv (eP++[n]) IM X'/\Only VS X X'/\∀g,IM g->VS g\/X.heap.size<=g
end
theorem abk(w:World)(N:List Nd)(Inv:List Nat->(Nat->Prop)->World->Prop)(p1 p2:Nat)(hk:Gd Inv)(hv:Ic w N Inv p1 p2)(mW:uX N)(hrk:sr N (tj N))(hN:N.length<=1099511627776)(A:dB)(cap sb vb nb ib mb:Nat)(hE:ic vH w A (N.map pA)):∀(k:Nat)(eP:List Nat)(VS:Nat->Prop)(n:Nat)(X:World),
 tM w N A cap sb vb nb ib mb (.func (.func 89) #[] #[.pointer (some ⟨p1,0,none⟩),.pointer (some ⟨p2,0,none⟩)]) eP X->Inv eP VS X->(∀g,VS g->w.heap.size<=g/\¬XV sb vb nb ib mb g)->n<N.length->tj N n<k->
 Calls prog 171 #[.int .i64 (n:Nat),.pointer (some ⟨sb,0,none⟩),.pointer (some ⟨vb,0,none⟩),.pointer (some ⟨nb,0,none⟩),.pointer (some ⟨ib,0,none⟩)] X λ e X'=>e=.returned (.tuple #[])/\∃IM,tM w N A cap sb vb nb ib mb (.func (.func 89) #[] #[.pointer (some ⟨p1,0,none⟩),.pointer (some ⟨p2,0,none⟩)]) (mX N k eP n) X'/\Inv (mX N k eP n) IM X'/\Only (λ g=>VS g\/g=mb) X X'/\∀g,IM g->VS g\/X.heap.size<=g:=by
 intro k;induction k with
 |zero=>intro eP VS n X _ _ _ _ h;omega
 |succ k IH=>
  intro eP VS n X hW hI hS hn hr;have HIH:=aG IH;clear IH;obtain⟨nd,nJ⟩:∃nd,N[n]?=some nd:=⟨_,af hn⟩;have zX:eR N n=nd.kids:=by unfold eR;rw[ji nJ]
  have hkey:=XU (n:=n) ar;have HW:=uF hW hI hS nJ zX hkey;obtain⟨c1,l1⟩:=hW.Rm.cl0;clear hW hI hS hkey nJ zX;go_enter func171,ntmps171;by_cases sT:n∈eP
  · as_aux_lemma=>
    have hs:tz eP n=some true:=if_pos sT;have hd:mX N (k+1) eP n=eP:=if_pos sT;have HD:=dt hs hd;clear hs hd;go_wp2_with (at_lookup;refine mg rfl _ _ _ rfl 3 4 uA tG dW aV rfl HW.q1.map _ n rfl HW.t5 ?_;rw[HD.q1]);(try simp only[Exit.inBlock,Exit.then]);refine bodyPost_ret (results_none rfl _ _ _) rfl ?_
    rw[HD.t1];exact⟨rfl,VS,HW.q1,HW.q2,Only.refl _ _,λ g h=>.inl h⟩
  · have hs:tz eP n=none:=if_neg sT
    have hd:mX N (k+1) eP n=nd.kids.foldl (mX N k) (eP++[n]):=by rw[<-HW.q5];exact if_neg sT
    have hlen:eP.length<N.length:=by
     have h1:=pj N.length (eP++[n]) (by
      rw[kL];exact⟨HW.q1.nodup,bY,λ a ha b hb e=>sT (by rw[aN.1 hb] at e;rw[<-e];exact ha)⟩) (λ x hx=>by
      rcases bV.1 hx with hx|hx
      · exact HW.q1.lt x hx
      · rw[aN.1 hx];exact hn)
     rw[ax,jk] at h1;omega
    have HD:=fH hs hd hlen;clear hs hd hlen
    go_upto_region 2 with(first
     |(at_lookup;refine mg rfl _ _ _ rfl 3 4 uA tG dW aV rfl HW.q1.map _ n rfl HW.t5 ?_;rw[HD.q1])
     |(at_mapUpdate;refine lT rfl _ _ _ _ rfl 3 4 uA tG dW DU (by have :=HD.t2;unfold maxLen;omega) rfl HW.q1.map _ n rfl HW.t5 true gC ?_;intro w3 Aq ru;have HM:=dt Aq ru;clear Aq ru))
    have ug:¬VS mb:=λ h=>(HW.q3 mb h).2 (.inr (.inr (.inr (.inr rfl))));have hne:=HW.q1.aeL
    have hW3:tM w N A cap sb vb nb ib mb (.func (.func 89) #[] #[.pointer (some ⟨p1,0,none⟩),.pointer (some ⟨p2,0,none⟩)]) (eP++[n]) w3:=by
     have hm:=HM.q1;rw[HD.q1] at hm;have EY:iI vn prog 3 4 w3 mb (eP.length+1) (u7 (tz eP) n true):=hm;rw[Gc] at EY;refine⟨HW.q1.low.trans (HM.t1.aK (λ g hg=>by rw[hg];exact HW.q1.far) HW.q1.low.size),HW.q1.Rm.only HM.t1 hne.1,HW.q1.Wh.only HM.t1 hne.2.1,HW.q1.nb_.only HM.t1 hne.2.2.1,HW.q1.Oo.only HM.t1 hne.2.2.2,by rw[ax];exact EY,?_,λ x hx=>?_,HW.q1.far⟩
     · rw[kL]
       exact⟨HW.q1.nodup,bY,λ a ha b hb e=>sT (by rw[aN.1 hb] at e;rw[<-e];exact ha)⟩
     · rcases bV.1 hx with hx|hx
       · exact HW.q1.lt x hx
       · rw[aN.1 hx];exact hn
    have hI3:=hk.only HW.q2 HM.t1 (λ g hg h=>ug (by rw[<-hg];exact h));have hc:=hv eP VS n w3 hI3 (λ g h=>(HW.q3 g h).1) sT hn hW3.low HD.t2;have HC:=dt hc hW3;have HO3:=aG HM.t1;obtain⟨c2,l2⟩:=hW3.Wh.cl0;clear hc hW3 hI3 HM hne c1 l1;go_upto_region 3 with(go_at_call 89;with_reducible refine HC.q1.mono ?_;rintro e w4 ⟨rfl,MA,q1,q2,q3⟩;have H4:=fH q1 q2 q3;clear q1 q2 q3);have DM:Only (λ g=>VS g\/g=mb) X w3:=HO3.o.mono λ g e=>.inr e;refine forget (λ Y=>∃MA,tM w N A cap sb vb nb ib mb (.func (.func 89) #[] #[.pointer (some ⟨p1,0,none⟩),.pointer (some ⟨p2,0,none⟩)]) (eP++[n]) Y/\Inv (eP++[n]) MA Y/\Only (λ g=>VS g\/g=mb) X Y/\∀g,MA g->VS g\/X.heap.size<=g) ⟨MA,HC.t1.only H4.q2 HW.q3,H4.q1,DM.trans (H4.q2.mono λ g h=>.inl h),λ g h=>(H4.t2 g h).imp id (λ q=>bm DM.size q)⟩ ?_;clear H4 HC DM HO3 c2 l2;clear w3 w4 MA;rintro Y ⟨MA,Qf,hIY,hOY,hNY⟩;obtain⟨bN,oN,A1,q1,A2,q2,T2,vI,_,_,dk,_,_,hEk,_,RN,_,_⟩:=mS (hE.keep Qf.low (ah _)) HW.q4;have hkb:nd.kids.length<=9223372036854775807:=by have :=RN;unfold maxLen at this;omega
    clear RN;obtain⟨c3,l3⟩:=Qf.nb_.cl0;rw[T2] at c3;have Zq:bN<Y.heap.size:=by have :=Qf.low.size;omega
    have XW:(n:Int)<(N.length:Int):=ar;have HY:=lQ Qf hIY hOY hNY hEk;clear Qf hIY hOY hNY hEk;go_wp2_with fail;go_loopw [22] (λ i wr=>∃(j:Nat) (Qg:Nat->Prop),j<=nd.kids.length/\i=.int .i64 j/\tM w N A cap sb vb nb ib mb (.func (.func 89) #[] #[.pointer (some ⟨p1,0,none⟩),.pointer (some ⟨p2,0,none⟩)]) ((nd.kids.take j).foldl (mX N k) (eP++[n])) wr/\Inv ((nd.kids.take j).foldl (mX N k) (eP++[n])) Qg wr/\Only (λ g=>VS g\/g=mb) X wr/\(∀g,Qg g->VS g\/X.heap.size<=g)/\Below w.heap.size Y wr) (λ i _=>nd.kids.length - (intOf i).toNat)
    case atStart=>exact⟨0,MA,ak _,rfl,HY.q1,HY.q2,HY.q3,HY.q4,aA _ _⟩
    case round=>
     obtain⟨j,Qg,hj,rfl,E0,T3,XX,T4,hbj⟩:=hrel;generalize wr=wA at *;clear c3 l3 Zq dk;by_cases hlt:j<nd.kids.length
     · as_aux_lemma=>
       have rE:(j:Int)<(nd.kids.length:Int):=ar;obtain⟨bk,ok,xk,hAk,pX,_,Oq,dx,f1,f2⟩:=(HY.t4.keep hbj (ah _)).fC (k:=j) (by rw[DT];exact hlt);obtain⟨c,hc⟩:∃c,nd.kids[j]?=some c:=⟨_,af hlt⟩
       have XY:xk=(c:Int):=by
        have :=Oq.o;unfold cV at this;rw[bQ,hc] at this;injection this with e
        exact e.symm
       subst XY;subst hAk;have hbl:bk<wA.heap.size:=by have :=E0.low.size;omega
       have hcm:c∈eR N n:=by rw[HW.q5];exact az hc
       have Wb:=hrk n c hcm;have hX:=E0.Rm.lt
       have hXl:∀g,XV sb vb nb ib mb g->g<X.heap.size:=λ g hg=>by
        rcases hg with rfl|rfl|rfl|rfl|rfl
        · exact HW.q1.Rm.lt
        · exact HW.q1.Wh.lt
        · exact HW.q1.nb_.lt
        · exact HW.q1.Oo.lt
        · exact HW.q1.map.lt
       have hwX:=HW.q1.low.size
       have hVj:∀g,Qg g->w.heap.size<=g/\¬XV sb vb nb ib mb g:=λ g hg=>by
        rcases T4 g hg with q|q
        · exact HW.q3 g q
        · exact⟨ar,λ h=>by have :=hXl g h;omega⟩
       have ey:=HIH.o _ Qg c wA E0 T3 hVj (mW n c hn hcm) ar
       have hst:(nd.kids.take (j+1)).foldl (mX N k) (eP++[n])=mX N k ((nd.kids.take j).foldl (mX N k) (eP++[n])) c:=by rw[bu,hc,List.foldl_append];rfl
       obtain⟨ci,li⟩:=E0.Oo.cl0;have HC:=iM ey hst XX T4;have HB:=fH hbj hVj E0;clear ey hst E0 T3 XX T4 hXl hX hcm Wb hc Oq hwX hbj hVj;go_wp2_with (go_at_call 171;with_reducible refine HC.q1.mono ?_;rintro e w4 ⟨rfl,XZ,q1,q2,q3,q4⟩;have H4:=iM q1 q2 q3 q4;clear q1 q2 q3 q4);go_roundw
       case rel=>
        have hsz:=HC.q3.size;refine⟨j+1,XZ,ar,gC,by rw[HC.q2];exact H4.q1,by rw[HC.q2];exact H4.q2,HC.q3.trans' H4.q3 (λ g hg=>?_),λ g hg=>?_,HB.q1.trans (H4.q3.aK (λ g hg=>hg.elim (λ h=>(HB.q2 g h).1) (λ h=>by rw[h];exact HB.t2.far)) HB.t2.low.size)⟩
        · rcases hg with hg|hg
          · exact(HC.t3 g hg).imp .inl id
          · exact .inl (.inr hg)
        · rcases H4.t3 g hg with q|q
          · exact HC.t3 g q
          · exact .inr ar
       case measure=>simp[intOf];omega
     · as_aux_lemma=>obtain rfl:j=nd.kids.length:=ar;rw[aX] at E0 T3;have HJ:=iM E0 T3 XX T4;clear E0 T3 XX T4;go_wp2_with fail;go_end0;rw[HD.q2];exact⟨rfl,Qg,HJ.q1,HJ.q2,HJ.q3,HJ.t3⟩
theorem abo(w:World)(N:List Nd)(Inv:List Nat->(Nat->Prop)->World->Prop)(p1 p2:Nat)(hk:Gd Inv)(hv:Ic w N Inv p1 p2)(mW:uX N)(hrk:sr N (tj N))(hN:N.length<=1099511627776)(A:dB)(cap:Nat)(hE:ic vH w A (N.map pA))(root:Nat)(tU:root<N.length)(VS:Nat->Prop)(X:World)
 (hX:aZ w X)(hI:Inv [] VS X)(hS:∀g,VS g->w.heap.size<=g):
 Calls prog 88 #[.slice A N.length cap,.int .i64 (root:Nat),.func (.func 89) #[] #[.pointer (some ⟨p1,0,none⟩),.pointer (some ⟨p2,0,none⟩)]] X λ e X'=>e=.returned (.tuple #[])/\∃IM,Inv (mX N 12 [] root) IM X'/\Only VS X X'/\∀g,IM g->VS g\/X.heap.size<=g:=by
 have hlt:=hk.lt hI;have HX:=iM hX hI hS hlt;clear hX hI hS hlt;go_enter func88,ntmps88;have qf:= @run_makeMap prog;go_upto_region 4 with fail;obtain⟨zb,hzb⟩:∃z,X.heap.size=z:=⟨_,rfl⟩;rw[hzb];have hW:=DV w X N A cap zb (.func (.func 89) #[] #[.pointer (some ⟨p1,0,none⟩),.pointer (some ⟨p2,0,none⟩)]) hzb HX.q1;refine forget (λ Y=>tM w N A cap (zb+1+1+1) (zb+1) zb (zb+1+1+1+1) (zb+1+1) (.func (.func 89) #[] #[.pointer (some ⟨p1,0,none⟩),.pointer (some ⟨p2,0,none⟩)]) [] Y/\aZ X Y) hW ?_;clear hW;rintro Y ⟨hW,hY⟩
 have hVl:∀g,VS g->w.heap.size<=g/\¬XV (zb+1+1+1) (zb+1) zb (zb+1+1+1+1) (zb+1+1) g:=λ g hg=>by refine⟨HX.q3 g hg,λ h=>?_⟩;have :=HX.t3 g hg;rcases h with h|h|h|h|h<;>omega
 have hI:=hk.only HX.q2 (aw (S:=λ _=>False) hY) (λ _ h=>h.elim);have ey:=abk w N Inv p1 p2 hk hv mW hrk hN A cap _ _ _ _ _ hE 12 [] VS root Y hW hI hVl tU (xK N root);obtain⟨ci,li⟩:=hW.Oo.cl0;have HC:=dt ey hY;clear ey hW hI hVl hY;go_wp2_with (go_at_call 171;with_reducible refine HC.q1.mono ?_;rintro e w4 ⟨rfl,XZ,q1,q2,q3,q4⟩;have H4:=fH q2 q3 q4;clear q1 q2 q3 q4);go_end0;have hs:=HC.t1.size;refine⟨rfl,XZ,H4.q1,((aw (S:=VS) HC.t1).trans' H4.q2 (λ g hg=>hg.imp id (λ h=>ar))),λ g hg=>(H4.t2 g hg).imp id (λ h=>ar)⟩
end
section
open Go.RowKit Go.Maps
attribute [local go_sem] aQ aC bW
section
variable{P:Program}{w:agb}{a:Addr}{m:Mode}
end
attribute[local go_sem] jC
section
variable(w:agb)(N:List Nd)(Inv:List Nat->(Nat->Prop)->agb->Prop)(p1:Nat)
def Ie:Prop:=∀eP VS n X,Inv eP VS X->(∀g,VS g->w.heap.size<=g)->n∉eP->n<N.length->aZ w X->eP.length<N.length->Calls prog 91 #[I J (n:Nat),M (O ⟨p1,0,U⟩)] X λ e X'=>e=.returned (.tuple #[])/\∃IM,Inv (eP++[n]) IM X'/\Only VS X X'/\∀g,IM g->VS g\/X.heap.size<=g
end
theorem abp(w:agb)(N:List Nd)(Inv:List Nat->(Nat->Prop)->agb->Prop)(p1:Nat)(hk:Gd Inv)(hv:Ie w N Inv p1)(mW:uX N)(hrk:sr N (tj N))(hN:N.length<=1099511627776)(A:dB)(cap sb vb nb ib mb:Nat)(hE:ic vH w A (N.map pA)):∀(k:Nat)(eP:List Nat)(VS:Nat->Prop)(n:Nat)(X:agb),
 tM w N A cap sb vb nb ib mb (.func (.func 91) #[] #[M (O ⟨p1,0,U⟩)]) eP X->Inv eP VS X->(∀g,VS g->w.heap.size<=g/\¬XV sb vb nb ib mb g)->n<N.length->tj N n<k->
 Calls prog 171 #[I J (n:Nat),M (O ⟨sb,0,U⟩),M (O ⟨vb,0,U⟩),M (O ⟨nb,0,U⟩),M (O ⟨ib,0,U⟩)] X λ e X'=>e=.returned (.tuple #[])/\∃IM,tM w N A cap sb vb nb ib mb (.func (.func 91) #[] #[M (O ⟨p1,0,U⟩)]) (mX N k eP n) X'/\Inv (mX N k eP n) IM X'/\Only (λ g=>VS g\/g=mb) X X'/\∀g,IM g->VS g\/X.heap.size<=g:=by
 intro k;induction k with
 |zero=>intro eP VS n X _ _ _ _ h;omega
 |succ k IH=>
  intro eP VS n X hW hI hS hn hr;have HIH:=aG IH;clear IH;obtain⟨nd,nJ⟩:∃nd,N[n]?=O nd:=⟨_,af hn⟩;have zX:eR N n=nd.kids:=by unfold eR;rw[ji nJ]
  have hkey:=XU (n:=n) ar;have HW:=uF hW hI hS nJ zX hkey;obtain⟨c1,l1⟩:=hW.Rm.cl0;clear hW hI hS hkey nJ zX;go_enter func171,ntmps171;by_cases sT:n∈eP
  · as_aux_lemma=>
    have hs:tz eP n=O true:=if_pos sT;have hd:mX N (k+1) eP n=eP:=if_pos sT;have HD:=dt hs hd;clear hs hd;go_wp2_with (at_lookup;refine mg rfl _ _ _ rfl 3 4 uA tG dW aV rfl HW.q1.map _ n rfl HW.t5 ?_;rw[HD.q1]);(try simp only[Exit.inBlock,Exit.then]);refine bodyPost_ret (results_none rfl _ _ _) rfl ?_
    rw[HD.t1];exact⟨rfl,VS,HW.q1,HW.q2,Only.refl _ _,λ g h=>.inl h⟩
  · have hs:tz eP n=U:=if_neg sT
    have hd:mX N (k+1) eP n=nd.kids.foldl (mX N k) (eP++[n]):=by rw[<-HW.q5];exact if_neg sT
    have hlen:eP.length<N.length:=by
     have h1:=pj N.length (eP++[n]) (by
      rw[kL];exact⟨HW.q1.nodup,bY,λ a ha b hb e=>sT (by rw[aN.1 hb] at e;rw[<-e];exact ha)⟩) (λ x hx=>by
      rcases bV.1 hx with hx|hx
      · exact HW.q1.lt x hx
      · rw[aN.1 hx];exact hn)
     rw[ax,jk] at h1;omega
    have HD:=fH hs hd hlen;clear hs hd hlen
    go_upto_region 2 with(first
     |(at_lookup;refine mg rfl _ _ _ rfl 3 4 uA tG dW aV rfl HW.q1.map _ n rfl HW.t5 ?_;rw[HD.q1])
     |(at_mapUpdate;refine lT rfl _ _ _ _ rfl 3 4 uA tG dW DU (by have :=HD.t2;unfold maxLen;omega) rfl HW.q1.map _ n rfl HW.t5 true gC ?_;intro w3 Aq ru;have HM:=dt Aq ru;clear Aq ru))
    have ug:¬VS mb:=λ h=>(HW.q3 mb h).2 (.inr (.inr (.inr (.inr rfl))));have hne:=HW.q1.aeL
    have hW3:tM w N A cap sb vb nb ib mb (.func (.func 91) #[] #[M (O ⟨p1,0,U⟩)]) (eP++[n]) w3:=by
     have hm:=HM.q1;rw[HD.q1] at hm;have EY:iI vn prog 3 4 w3 mb (eP.length+1) (u7 (tz eP) n true):=hm;rw[Gc] at EY;refine⟨HW.q1.low.trans (HM.t1.aK (λ g hg=>by rw[hg];exact HW.q1.far) HW.q1.low.size),HW.q1.Rm.only HM.t1 hne.1,HW.q1.Wh.only HM.t1 hne.2.1,HW.q1.nb_.only HM.t1 hne.2.2.1,HW.q1.Oo.only HM.t1 hne.2.2.2,by rw[ax];exact EY,?_,λ x hx=>?_,HW.q1.far⟩
     · rw[kL]
       exact⟨HW.q1.nodup,bY,λ a ha b hb e=>sT (by rw[aN.1 hb] at e;rw[<-e];exact ha)⟩
     · rcases bV.1 hx with hx|hx
       · exact HW.q1.lt x hx
       · rw[aN.1 hx];exact hn
    have hI3:=hk.only HW.q2 HM.t1 (λ g hg h=>ug (by rw[<-hg];exact h));have hc:=hv eP VS n w3 hI3 (λ g h=>(HW.q3 g h).1) sT hn hW3.low HD.t2;have HC:=dt hc hW3;have HO3:=aG HM.t1;obtain⟨c2,l2⟩:=hW3.Wh.cl0;clear hc hW3 hI3 HM hne c1 l1;go_upto_region 3 with(go_at_call 91;with_reducible refine HC.q1.mono ?_;rintro e w4 ⟨rfl,MA,q1,q2,q3⟩;have H4:=fH q1 q2 q3;clear q1 q2 q3);have DM:Only (λ g=>VS g\/g=mb) X w3:=HO3.o.mono λ g e=>.inr e;refine forget (λ Y=>∃MA,tM w N A cap sb vb nb ib mb (.func (.func 91) #[] #[M (O ⟨p1,0,U⟩)]) (eP++[n]) Y/\Inv (eP++[n]) MA Y/\Only (λ g=>VS g\/g=mb) X Y/\∀g,MA g->VS g\/X.heap.size<=g) ⟨MA,HC.t1.only H4.q2 HW.q3,H4.q1,DM.trans (H4.q2.mono λ g h=>.inl h),λ g h=>(H4.t2 g h).imp id (λ q=>bm DM.size q)⟩ ?_;clear H4 HC DM HO3 c2 l2;clear w3 w4 MA;rintro Y ⟨MA,Qf,hIY,hOY,hNY⟩;obtain⟨bN,oN,A1,q1,A2,q2,T2,vI,_,_,dk,_,_,hEk,_,RN,_,_⟩:=mS (hE.keep Qf.low (ah _)) HW.q4;have hkb:nd.kids.length<=9223372036854775807:=by have :=RN;unfold maxLen at this;omega
    clear RN;obtain⟨c3,l3⟩:=Qf.nb_.cl0;rw[T2] at c3;have Zq:bN<Y.heap.size:=by have :=Qf.low.size;omega
    have XW:(n:Int)<(N.length:Int):=ar;have HY:=lQ Qf hIY hOY hNY hEk;clear Qf hIY hOY hNY hEk;go_wp2_with fail;go_loopw [22] (λ i wr=>∃(j:Nat) (Qg:Nat->Prop),j<=nd.kids.length/\i=I J j/\tM w N A cap sb vb nb ib mb (.func (.func 91) #[] #[M (O ⟨p1,0,U⟩)]) ((nd.kids.take j).foldl (mX N k) (eP++[n])) wr/\Inv ((nd.kids.take j).foldl (mX N k) (eP++[n])) Qg wr/\Only (λ g=>VS g\/g=mb) X wr/\(∀g,Qg g->VS g\/X.heap.size<=g)/\Below w.heap.size Y wr) (λ i _=>nd.kids.length - (intOf i).toNat)
    case atStart=>exact⟨0,MA,ak _,rfl,HY.q1,HY.q2,HY.q3,HY.q4,aA _ _⟩
    case round=>
     obtain⟨j,Qg,hj,rfl,E0,T3,XX,T4,hbj⟩:=hrel;generalize wr=wA at *;clear c3 l3 Zq dk;by_cases hlt:j<nd.kids.length
     · as_aux_lemma=>
       have rE:(j:Int)<(nd.kids.length:Int):=ar;obtain⟨bk,ok,xk,hAk,pX,_,Oq,dx,f1,f2⟩:=(HY.t4.keep hbj (ah _)).fC (k:=j) (by rw[DT];exact hlt);obtain⟨c,hc⟩:∃c,nd.kids[j]?=O c:=⟨_,af hlt⟩
       have XY:xk=(c:Int):=by
        have :=Oq.o;unfold cV at this;rw[bQ,hc] at this;injection this with e
        exact e.symm
       subst XY;subst hAk;have hbl:bk<wA.heap.size:=by have :=E0.low.size;omega
       have hcm:c∈eR N n:=by rw[HW.q5];exact az hc
       have Wb:=hrk n c hcm;have hX:=E0.Rm.lt
       have hXl:∀g,XV sb vb nb ib mb g->g<X.heap.size:=λ g hg=>by
        rcases hg with rfl|rfl|rfl|rfl|rfl
        · exact HW.q1.Rm.lt
        · exact HW.q1.Wh.lt
        · exact HW.q1.nb_.lt
        · exact HW.q1.Oo.lt
        · exact HW.q1.map.lt
       have hwX:=HW.q1.low.size
       have hVj:∀g,Qg g->w.heap.size<=g/\¬XV sb vb nb ib mb g:=λ g hg=>by
        rcases T4 g hg with q|q
        · exact HW.q3 g q
        · exact⟨ar,λ h=>by have :=hXl g h;omega⟩
       have ey:=HIH.o _ Qg c wA E0 T3 hVj (mW n c hn hcm) ar
       have hst:(nd.kids.take (j+1)).foldl (mX N k) (eP++[n])=mX N k ((nd.kids.take j).foldl (mX N k) (eP++[n])) c:=by rw[bu,hc,List.foldl_append];rfl
       obtain⟨ci,li⟩:=E0.Oo.cl0;have HC:=iM ey hst XX T4;have HB:=fH hbj hVj E0;clear ey hst E0 T3 XX T4 hXl hX hcm Wb hc Oq hwX hbj hVj;go_wp2_with (go_at_call 171;with_reducible refine HC.q1.mono ?_;rintro e w4 ⟨rfl,XZ,q1,q2,q3,q4⟩;have H4:=iM q1 q2 q3 q4;clear q1 q2 q3 q4);go_roundw
       case rel=>
        have hsz:=HC.q3.size;refine⟨j+1,XZ,ar,gC,by rw[HC.q2];exact H4.q1,by rw[HC.q2];exact H4.q2,HC.q3.trans' H4.q3 (λ g hg=>?_),λ g hg=>?_,HB.q1.trans (H4.q3.aK (λ g hg=>hg.elim (λ h=>(HB.q2 g h).1) (λ h=>by rw[h];exact HB.t2.far)) HB.t2.low.size)⟩
        · rcases hg with hg|hg
          · exact(HC.t3 g hg).imp .inl id
          · exact .inl (.inr hg)
        · rcases H4.t3 g hg with q|q
          · exact HC.t3 g q
          · exact .inr ar
       case measure=>simp[intOf];omega
     · as_aux_lemma=>obtain rfl:j=nd.kids.length:=ar;rw[aX] at E0 T3;have HJ:=iM E0 T3 XX T4;clear E0 T3 XX T4;go_wp2_with fail;go_end0;rw[HD.q2];exact⟨rfl,Qg,HJ.q1,HJ.q2,HJ.q3,HJ.t3⟩
theorem abq(w:agb)(N:List Nd)(Inv:List Nat->(Nat->Prop)->agb->Prop)(p1:Nat)(hk:Gd Inv)(hv:Ie w N Inv p1)(mW:uX N)(hrk:sr N (tj N))(hN:N.length<=1099511627776)(A:dB)(cap:Nat)(hE:ic vH w A (N.map pA))(root:Nat)(tU:root<N.length)(VS:Nat->Prop)(X:agb)
 (hX:aZ w X)(hI:Inv [] VS X)(hS:∀g,VS g->w.heap.size<=g):
 Calls prog 88 #[G A N.length cap,I J (root:Nat),.func (.func 91) #[] #[M (O ⟨p1,0,U⟩)]] X λ e X'=>e=.returned (.tuple #[])/\∃IM,Inv (mX N 12 [] root) IM X'/\Only VS X X'/\∀g,IM g->VS g\/X.heap.size<=g:=by
 have hlt:=hk.lt hI;have HX:=iM hX hI hS hlt;clear hX hI hS hlt;go_enter func88,ntmps88;have qf:= @run_makeMap prog;go_upto_region 4 with fail;obtain⟨zb,hzb⟩:∃z,X.heap.size=z:=⟨_,rfl⟩;rw[hzb];have hW:=DV w X N A cap zb (.func (.func 91) #[] #[M (O ⟨p1,0,U⟩)]) hzb HX.q1;refine forget (λ Y=>tM w N A cap (zb+1+1+1) (zb+1) zb (zb+1+1+1+1) (zb+1+1) (.func (.func 91) #[] #[M (O ⟨p1,0,U⟩)]) [] Y/\aZ X Y) hW ?_;clear hW;rintro Y ⟨hW,hY⟩
 have hVl:∀g,VS g->w.heap.size<=g/\¬XV (zb+1+1+1) (zb+1) zb (zb+1+1+1+1) (zb+1+1) g:=λ g hg=>by refine⟨HX.q3 g hg,λ h=>?_⟩;have :=HX.t3 g hg;rcases h with h|h|h|h|h<;>omega
 have hI:=hk.only HX.q2 (aw (S:=λ _=>False) hY) (λ _ h=>h.elim);have ey:=abp w N Inv p1 hk hv mW hrk hN A cap _ _ _ _ _ hE 12 [] VS root Y hW hI hVl tU (xK N root);obtain⟨ci,li⟩:=hW.Oo.cl0;have HC:=dt ey hY;clear ey hW hI hVl hY;go_wp2_with (go_at_call 171;with_reducible refine HC.q1.mono ?_;rintro e w4 ⟨rfl,XZ,q1,q2,q3,q4⟩;have H4:=fH q2 q3 q4;clear q1 q2 q3 q4);go_end0;have hs:=HC.t1.size;refine⟨rfl,XZ,H4.q1,((aw (S:=VS) HC.t1).trans' H4.q2 (λ g hg=>hg.imp id (λ h=>ar))),λ g hg=>(H4.t2 g hg).imp id (λ h=>ar)⟩
end
end Go.Proofs.YtbcpcneadjcmlaaGreatDoor
