import Derived.Test.YtbcpcneadjcmlaaGreatDoorK22
import Derived.Laws.BytesArg
namespace Go.Proofs.YtbcpcneadjcmlaaGreatDoor
open Go.Proofs.Tryz
set_option maxRecDepth 100000
set_option maxHeartbeats 16000000
set_option linter.unusedVariables false
set_option linter.unusedSimpArgs false
open Value renaming int→I,slice→G,pointer→M
open IntKind renaming i64→J
open Obj renaming cells→D
open Option renaming some→O,none→U
open Go renaming Value→R,World→agb
open List renaming length→agh
section
open Go.RowKit Go.Maps
attribute [local go_sem] aQ aC bW
def Yr(rs:List Rl)(l:Int×Int):Prop:=∃i k r z,l=(((i:Nat):Int),((k:Nat):Int))/\rs[i]?=O r/\r.2.2.1[k]?=O z
theorem ML{rs:List Rl}{i k:Nat}{r:Rl}{z:Zn}(h:rs[i]?=O r)(hz:r.2.2.1[k]?=O z):z∈bc rs:=by unfold bc;exact dP.2 ⟨r,az h,az hz⟩
theorem Kz{Z:List Zn}{lo hi:Int}{a:Nat}{live:List Nat}{z:Nat}(hz:z∈live){c:Int}(hc:c=(atR (dK Z z) a).1\/c=(atR (dK Z z) a).2+1)(h1:lo<c)(h2:c<=hi):c∈fI Z lo hi a live:=by unfold fI;refine di _ (dP.2 ⟨z,hz,dY.2 ⟨?_,by simp[h1,h2]⟩⟩);rcases hc with rfl|rfl<;>simp
theorem Qs{Z:List Zn}{z:Zn}(hz:z∈Z){a:Nat}{c:Int}(hc:c=(atR z a).1\/c=(atR z a).2+1)(h1:(atR aP a).1<c)(h2:c<=(atR aP a).2):c∈mA Z aP a:=by obtain⟨i,hi,rfl⟩:=bo.1 hz;unfold mA;refine((lU Z aP a _).2.2 c).2 (Kz (z:=i) (bG.2 ar) ?_ h1 h2);unfold dK;rw[av,af hi];exact hc
theorem Cc(Z:List Zn)(a:Nat):(atR aP a).1∈mA Z aP a:=by unfold mA;exact((lU Z aP a _).2.2 _).2 (by unfold fI;exact dA ..)
theorem Ce{Z:List Zn}{a:Nat}(ha:a<10){c:Int}(h:c∈mA Z aP a):(atR aP a).1<=c/\c<=(atR aP a).2:=by
 unfold mA at h;obtain⟨h1,h2⟩:=nC (((lU Z aP a _).2.2 c).1 h)
 have hl:(atR aP a).1<=(atR aP a).2:=by have :∀a:Nat,a<10->(atR aP a).1<=(atR aP a).2:=cj;exact this a ha
 exact⟨h1,by rcases h2 with rfl|h2<;>omega⟩
theorem D6{a:Nat}(ha:a<10):0<=(atR aP a).1/\(atR aP a).2<=1000000000:=by have :∀a:Nat,a<10->0<=(atR aP a).1/\(atR aP a).2<=1000000000:=cj;exact this a ha
theorem Ys{Z:List Zn}{a:Nat}{l:List Int}(h:∀v∈l,v∈mA Z aP a):(N5 l).length<=cA Z aP a/\∀v∈N5 l,v∈mA Z aP a:=by have hm:∀v∈N5 l,v∈mA Z aP a:=λ v hv=>h v ((sK l).2 v |>.1 hv);exact⟨rP (sK l).1 hm,hm⟩
abbrev IQ:Ty (Int×Int):=fy dr dr
structure Vl(E:Ve)(w:agb)(attr:Nat)(f:Fc)(m b3:Nat)(vS:R)(raw:List Int)(X:agb):Prop where
 ok:E.ok f m X
 low:aZ w X
 q1:Bk X w.heap.size #[M (O ⟨E.sb,0,U⟩)] 128
 q2:Bk X (w.heap.size+1) #[I J (attr:Nat)] 3
 q3:Bk X b3 #[vS] 117
 row:cH dr 3 X (w.heap.size+2) 0 vS raw
 hb:w.heap.size+2<=b3
 all:∀v∈raw,v∈mA (bc E.rs) aP attr
theorem Vl.below{E:Ve}{w:agb}{attr:Nat}{f:Fc}{m b3:Nat}{vS:R}{raw:List Int}{X X':agb}(h:Vl E w attr f m b3 vS raw X)(hb:aZ X X'):Vl E w attr f m b3 vS raw X':=
 ⟨h.ok.below hb,aq h.low hb,h.q1.below hb,h.q2.below hb,h.q3.below hb,h.row.below hb (ak _),h.hb,h.all⟩
theorem Vl.push{E:Ve}{w:agb}{attr:Nat}{f:Fc}{m b3:Nat}{vS:R}{raw:List Int}{X w9:agb}{A9:dB}{n9 c9:Nat}{z:Int}(hs:E.st)(h:Vl E w attr f m b3 vS raw X)(hw:E.W0.heap.size<=w.heap.size)(oV:E.sb<w.heap.size)(ug:E.mb<w.heap.size)
 (iO:cH dr 3 w9 (w.heap.size+2) 0 (G A9 n9 c9) (raw++[z]))(kH:Only (λ g=>vS.ownBlock=O g) X w9)(hz:z∈mA (bc E.rs) aP attr):
 Vl E w attr f m b3 (G A9 n9 c9) (raw++[z]) (w9.setCell ⟨b3,0,U⟩ (G A9 n9 c9)):=by
 have hlt:=λ g hg=>h.row.lt g hg;have N4:Bk w9 b3 #[vS] 117:=h.q3.only kH (λ e=>iT h.row h.q3 cj b3 e rfl);have ho:Only (λ g=>vS.ownBlock=O g\/g=b3) X (w9.setCell ⟨b3,0,U⟩ (G A9 n9 c9)):=(kH.mono λ g e=>.inl e).aS (p:=⟨b3,0,U⟩) (.inl (.inr rfl)) _;have Mz:Only (λ g=>g=b3) w9 (w9.setCell ⟨b3,0,U⟩ (G A9 n9 c9)):=(Only.refl (λ g=>g=b3) w9).aS (p:=⟨b3,0,U⟩) (.inl rfl) _;have mN:=h.hb;have O4:∀g,(vS.ownBlock=O g\/g=b3)->w.heap.size+2<=g:=λ g hg=>hg.elim (λ e=>(hlt g e).1) (λ e=>ar);refine⟨h.ok.only hs ho (λ g hg=>?_),h.low.trans (ho.aK (λ g hg=>by have :=O4 g hg;omega) h.low.size),h.q1.only ho (λ hg=>?_),h.q2.only ho (λ hg=>?_),?_,iO.only Mz (λ _ _=>ak _) (ak _) (λ g hg e=>iT iO N4 cj g hg e),h.hb,λ v hv=>?_⟩
 · have :=O4 g hg;omega
 · have :=O4 _ hg;omega
 · have :=O4 _ hg;omega
 · exact N4.aS 0 _
 · rcases bV.1 hv with hv|hv
   · exact h.all v hv
   · rw[aN.1 hv];exact hz
theorem D7(E:Ve)(hs:E.st)(w:agb)(attr:Nat)(f:Fc)(m b3:Nat)(vS:R)(raw:List Int)(X:agb)(h:Vl E w attr f m b3 vS raw X)(ha:attr<10)(hw:E.W0.heap.size<=w.heap.size)(oV:E.sb<w.heap.size)(ug:E.mb<w.heap.size)(hl:raw.length<=1000000000)(z:Int)
 (hz:(atR aP attr).1<z->z<=(atR aP attr).2->z∈mA (bc E.rs) aP attr)(hzf:fits z):
 Calls prog 172 #[I J z,M (O ⟨w.heap.size,0,U⟩),M (O ⟨w.heap.size+1,0,U⟩),M (O ⟨b3,0,U⟩)] X λ e X'=>e=.returned (.tuple #[])/\∃vS' afu,Vl E w attr f m b3 vS' afu X'/\afu.length<=raw.length+1/\Only (λ g=>vS.ownBlock=O g\/g=b3) X X':=by
 obtain⟨A,c,rfl,hc1,hc2⟩:=h.row.form;obtain⟨lo,nA⟩:∃x,(atR aP attr).1=x:=⟨_,rfl⟩;obtain⟨hi,zl⟩:∃x,(atR aP attr).2=x:=⟨_,rfl⟩;have d1:=(h.ok.Us ha).1;have d2:=(h.ok.Us ha).2;rw[nA] at hz d1;rw[zl] at hz d2;obtain⟨q1,l1⟩:=h.q1.cl0;obtain⟨q2,l2⟩:=h.q2.cl0;obtain⟨q3,l3⟩:=h.q3.cl0;have f3:=h.q3.free 0;have MM:=h.ok.box.lt;obtain⟨sb,BO⟩:∃x,E.sb=x:=⟨_,rfl⟩;have arj:=aG BO;rw[BO] at d1 d2 MM q1;have haI:(attr:Int)<10:=ar;have HX:=iM h hz nA zl;have T7:=aG (show raw.length+1<=10000000000000 from ar);have hbX:w.heap.size+2<=X.heap.size:=by have :=h.hb;omega
 clear h hz nA zl BO;by_cases p1:lo<z
 · by_cases p2:z<=hi
   · as_aux_lemma=>
     have e1:decide (lo<z)=true:=decide_eq_true p1;have e2:decide (z<=hi)=true:=decide_eq_true p2;go_enter func172,ntmps172;go_wp2_with fail;go_quiet (fail)
     go_wp2_with (at_builtin;go_loud (refine gM rfl _ _ rfl A _ c rfl raw rfl ((HX.q1.below dE).row) _ rfl z (au _ _ _ _ bY) hzf T7.o gW ?_);intro A9 c9 w9 iO kH kT;have mB:Only (λ g=>(G A raw.length c).ownBlock=O g) X w9:=(show Only _ X _ from GG).trans kH;have bq:=HX.q1.q3.only mB (λ e=>iT HX.q1.row HX.q1.q3 cj b3 e rfl);have cq:=bq.cell;have fq:=bq.free 0;have lq:=bq.lt;have H9:=fH iO mB kT;clear iO kH mB kT bq);go_end0;exact⟨rfl,_,_,HX.q1.push hs hw oV ug H9.q1 H9.q2 (HX.q2 p1 p2),bY,(H9.q2.mono λ g e=>.inl e).aS (p:=⟨b3,0,U⟩) (.inl (.inr rfl)) _⟩
   · as_aux_lemma=>
     have e1:decide (lo<z)=true:=decide_eq_true p1;have e2:decide (z<=hi)=false:=decide_eq_false p2;go_enter func172,ntmps172;go_wp2_with fail;go_quiet (fail)
     go_wp2_with fail;go_end0;exact⟨rfl,_,raw,HX.q1.below dE,ar,aw dE⟩
 · as_aux_lemma=>
   have e1:decide (lo<z)=false:=decide_eq_false p1;go_enter func172,ntmps172;go_wp2_with fail;go_quiet (fail)
   go_wp2_with fail;go_end0;exact⟨rfl,_,raw,HX.q1.below dE,ar,aw dE⟩
theorem KA{E:Ve}{w X X':agb}{attr:Nat}{f:Fc}{m g b3:Nat}(hs:E.st)(h:E.ok f m X)(hX:aZ w X)(q1:Bk X w.heap.size #[M (O ⟨E.sb,0,U⟩)] 128)(q2:Bk X (w.heap.size+1) #[I J (attr:Nat)] 3)(hb:aZ X X')(ha:attr<10)
 (k1:Bk X' g #[I J (atR aP attr).1] 3)(k3:Bk X' b3 #[G (O ⟨g,0,U⟩) 1 1] 117)(hg:X.heap.size<=g)(h3:X.heap.size<=b3)(hsz:w.heap.size+2<=X.heap.size):Vl E w attr f m b3 (G (O ⟨g,0,U⟩) 1 1) [(atR aP attr).1] X':=
 ⟨h.below hb,aq hX hb,q1.below hb,q2.below hb,k3,DW k1 ar (by have :=D6 ha;have :(atR aP attr).1<=(atR aP attr).2:=(Ce ha (Cc [] attr)).2;unfold fits;omega),ar,λ v hv=>by rw[aN.1 hv];exact Cc _ _⟩
theorem MN(E:Ve)(hs:E.st)(f:Fc)(m attr n:Nat)(nd:Nd)(AL:dB)(cL:Nat)(zs:List (Int×Int))(w:agb)(h:E.ok f m w)(hn:E.T[n]?=O nd)(ha:attr<10)
 (hz:ic IQ w AL zs)(hzv:∀l∈zs,Yr E.rs l)(hzl:zs.length<=100000):
 Calls prog 93 #[M (O ⟨E.sb,0,U⟩),I J (attr:Nat),G AL zs.length cL,I J (n:Nat)] w λ e w'=>∃A' c' vs,e=.returned (G A' vs.length c')/\cH dr 3 w' w.heap.size 0 (G A' vs.length c') vs/\aZ w w'/\(∀v∈vs,v∈mA (bc E.rs) aP attr)/\vs.length<=cA (bc E.rs) aP attr:=by
 have hw:=h.old.size;have oV:=h.box.lt;obtain⟨_,EK⟩:=h.map;have ug:=EK.lt;have HH:=yK hs h hn hz hzv hw oV ug;obtain⟨sb,BO⟩:∃x,E.sb=x:=⟨_,rfl⟩;have HS:=aG BO;rw[BO] at oV⊢;have haI:(attr:Int)<10:=ar;clear hs h hn hz hzv hw ug EK BO;go_enter func93,ntmps93;go_upto_region 1 with fail
 have hY:E.ok f m ((w.alloc (D #[M (O ⟨sb,0,U⟩)] 128)).alloc (D #[I J (attr:Nat)] 3))/\aZ w ((w.alloc (D #[M (O ⟨sb,0,U⟩)] 128)).alloc (D #[I J (attr:Nat)] 3))/\Bk ((w.alloc (D #[M (O ⟨sb,0,U⟩)] 128)).alloc (D #[I J (attr:Nat)] 3)) w.heap.size #[M (O ⟨sb,0,U⟩)] 128/\Bk ((w.alloc (D #[M (O ⟨sb,0,U⟩)] 128)).alloc (D #[I J (attr:Nat)] 3)) (w.heap.size+1) #[I J (attr:Nat)] 3/\((w.alloc (D #[M (O ⟨sb,0,U⟩)] 128)).alloc (D #[I J (attr:Nat)] 3)).heap.size=w.heap.size+2:=
  ⟨HH.q2.below dE,dE,(au _ _ _ _ rfl).alloc _,au _ _ _ _ bY,bY⟩
 refine forget (λ X=>E.ok f m X/\aZ w X/\Bk X w.heap.size #[M (O ⟨sb,0,U⟩)] 128/\Bk X (w.heap.size+1) #[I J (attr:Nat)] 3/\X.heap.size=w.heap.size+2) hY ?_;clear hY;rintro X ⟨k1,k2,k3,k4,k5⟩;have d1:=(k1.Us ha).1;rw[HS.o] at d1;obtain⟨q1,l1⟩:=k3.cl0;obtain⟨q2,l2⟩:=k4.cl0;have akk:sb<X.heap.size:=ar;have HX:=lQ k1 k2 k3 k4 k5;clear k1 k2 k3 k4 k5;obtain⟨lo,nA⟩:∃x,(atR aP attr).1=x:=⟨_,rfl⟩;have HLO:=aG nA;rw[nA] at d1;clear nA;go_cut [9] (λ p X'=>∃b3 A,p=M (O ⟨b3,0,U⟩)/\Vl E w attr f m b3 (G A 1 1) [lo] X')
 case first =>
  have HD:=aG ((aA X.heap.size X).drew);have AG:∀X',aZ X X'->∃u,X'=ext X u:=λ X' h=>(let⟨u,e⟩:=dV h;⟨u,e.symm⟩);have kK:=aG AG;clear AG;refine ui (S:=λ w'=>∃u,w'=ext X u) [([0,1,2,3,4,5,6],[])] 7 8 [] 9 aV aV (kK.o _ HD.o) ?_;refine bT (λ K9 h9=>?_);simp only[aH,aU,aW,aa,ae];repeat(go_big_quiet_step (fail))
  refine wpQuiet_nil (h9 _ ?_);clear h9 K9;refine bU (dF ⟨?_,?_⟩)
  · refine jM (λ K9 h9=>?_)
    simp only[aW,aa,ae];go_wp2_with fail;refine h9 _ _ (kK.o _ (ay HD.o _)) ?_;clear h9 K9;refine jM (λ K9 h9=>?_);simp only[aW,aa,ae];go_wp2_with fail;refine h9 _ _ (kK.o _ (ay (ay HD.o _) _)) ?_;clear h9 K9;refine dF ?_;simp only[aW,aa,ae];go_wp2_with fail;go_meet;rw[<-HLO.o];refine⟨_,_,rfl,KA HH.q1 HX.q1 HX.q2 (by rw[HS.o];exact HX.q3) HX.q4 dE ha (((au X _ _ _ rfl).alloc _).drew) ((au _ _ _ _ bY).drew) (ah _) ar (by have :=HX.t4;omega)⟩
  · refine jM (λ K9 h9=>?_)
    simp only[aW,aa,ae];go_wp2_with fail;refine h9 _ _ (kK.o _ (ay HD.o _)) ?_;clear h9 K9;refine jM (λ K9 h9=>?_);simp only[aW,aa,ae];go_wp2_with fail;refine h9 _ _ (kK.o _ (ay (ay HD.o _) _)) ?_;clear h9 K9;refine dF ?_;simp only[aW,aa,ae];go_wp2_with fail;go_meet;rw[<-HLO.o];refine⟨_,_,rfl,KA HH.q1 HX.q1 HX.q2 (by rw[HS.o];exact HX.q3) HX.q4 dE ha ((au _ _ _ _ bY).drew) (((au X _ _ _ rfl).alloc _).drew) ar (ah _) (by have :=HX.t4;omega)⟩
 case rest=>
 obtain⟨b3,A0,hv,hV⟩:=hcut;subst hv;have HV:=aG hV;clear hV HX q1 l1 q2 l2 d1 akk;go_wp2_with fail;go_loopw [27] (λ i wr=>∃(k:Nat) (vS:R) (raw:List Int),k<=zs.length/\i=I J k/\raw.length<=1+2*k/\Vl E w attr f m b3 vS raw wr) (λ i _=>zs.length - (intOf i).toNat)
 case atStart=>exact⟨0,_,_,ak _,rfl,ah _,HV.o⟩
 case round=>
  clear HV;clear wc X;obtain⟨k,vS,raw,hk,rfl,BP,hV⟩:=hrel;generalize wr=wA at *;by_cases hlt:k<zs.length
  · as_aux_lemma=>
    have kq:(k:Int)<(zs.length:Int):=ar;obtain⟨bL,oL,x,cs,rfl,Ge,_,hx,ZU,⟨c1,c2,rfl,⟨rfl,fa1,fa2⟩,⟨rfl,fb1,Uu⟩⟩,hc⟩:=(HH.q4.keep hV.low hV.low.size).pick hlt;obtain⟨i,kz,r,z,hxe,hri,MO⟩:=HH.q5 x ZU;subst hxe;have e0:wA.cell? ⟨bL,oL+k*2,U⟩=O (I J (i:Nat)):=hc 0 _ rfl;have e1:wA.cell? ⟨bL,oL+k*2+1,U⟩=O (I J (kz:Nat)):=hc 1 _ rfl;have HQ:=iM BP hV hri MO;clear BP hV hri MO hc hx ZU;go_upto_region 6 with fail;obtain⟨yb,yL⟩:∃y,wA.heap.size=y:=⟨_,rfl⟩
    have hY:Vl E w attr f m b3 vS raw (wA.alloc (D #[I J (i:Nat),I J (kz:Nat)] 133))/\Bk (wA.alloc (D #[I J (i:Nat),I J (kz:Nat)] 133)) yb #[I J (i:Nat),I J (kz:Nat)] 133:=
     ⟨HQ.q2.below dE,au _ _ _ _ yL⟩
    rw[yL];refine forget (λ Y=>Vl E w attr f m b3 vS raw Y/\Bk Y yb #[I J (i:Nat),I J (kz:Nat)] 133) hY ?_;clear hY e0 e1 yL;rintro Y ⟨hV,yL⟩;obtain⟨bR,oR,kd,nm,AZ,zz,zc,num,rn,rd,sn,sd,hAR,hbR,Hr,-,-,r2,-,-,-,-,-,-,-,-,hZ,-,-⟩:=kA (HH.q1.rules.keep hV.ok.old hV.ok.old.size) (k:=i) (ai.1 HQ.q3).1;have ZN:r=(kd,nm,zz,num,(rn,rd),(sn,sd)):=aO (HQ.q3.symm.trans Hr.o);have MO:zz[kz]?=O z:=by have :=HQ.t3;rw[ZN] at this;exact this
    obtain⟨bZ,oZ,z',rfl,Qi,Hz,uo,FM⟩:=pz hZ (ai.1 MO).1;have hzz:z'=z:=aO (Hz.o.symm.trans MO);subst hzz;have V7:z'∈bc E.rs:=ML HQ.q3 HQ.t3;obtain⟨k1,k2,k3⟩:=Ig (HH.q1.val z' V7) ha;have d1:Y.cell? ⟨bZ,oZ+kz*20+attr*2,U⟩=O (I J (atR z' attr).1):=FM.o _ _ (iC (by rw[uo];omega)).1;have d2:Y.cell? ⟨bZ,oZ+kz*20+attr*2+1,U⟩=O (I J (atR z' attr).2):=by rw[fu];exact FM.o _ _ (iC (by rw[uo];omega)).2
    obtain⟨r1,hr1⟩:∃x,(atR z' attr).1=x:=⟨_,rfl⟩;obtain⟨r3,hr3⟩:∃x,(atR z' attr).2=x:=⟨_,rfl⟩;have ca1:=λ c=>Qs (c:=c) V7 (a:=attr);rw[hr1,hr3] at ca1;rw[hr1] at d1 k1 k2;rw[hr3] at d2 k2 k3;have vw:=D6 ha;have ako:(kz:Int)<(zz.length:Int):=by have :=(ai.1 MO).1;omega
    have hiI:(i:Int)<(E.rs.length:Int):=by have :=(ai.1 HQ.q3).1;omega
    have c0:=hV.ok.cells.1;rw[hAR,HS.o] at c0;have MM:sb<Y.heap.size:=by rw[<-HS.o];exact hV.ok.box.lt
    obtain⟨nR,hnR⟩:∃x,E.rs.length=x:=⟨_,rfl⟩;obtain⟨cR,hcR⟩:∃x,E.cap=x:=⟨_,rfl⟩;rw[hnR,hcR] at c0;rw[hnR] at hiI;obtain⟨q1,l1⟩:=hV.q1.cl0;rw[HS.o] at q1;obtain⟨q2,l2⟩:=hV.q2.cl0;obtain⟨qy,ly⟩:=yL.cl0;have afB:fits r1:=by unfold fits;omega
    have afC:fits (r3+1):=by unfold fits;omega
    have ark:r3<=1000000000:=ar;have arl:0<=r3:=ar;have D8:=lQ HQ.q1 hV ca1 afB afC;clear HQ hV yL Hr ZN MO Hz uo FM V7 hr1 hr3 ca1 hnR hcR hZ hAR k1 k2 k3 vw afB afC;refine ed (λ w'=>∃u,w'=ext Y u) [([0,1,2,3,4,5,6,7,8,9,10,11,12,13,14,15],[16])] 17 aV aV ⟨_,(dV ((aA Y.heap.size Y).drew)).choose_spec.symm⟩ ?_;(refine bT (λ K9 h9=>?_);simp only[aH,aU,aW,aa,ae];(repeat(go_big_quiet_step (fail)));refine wpQuiet_nil (h9 _ ?_);clear h9 K9)
    (refine cM (λ K9 h9=>?_);simp only[aW,aa,ae])
    go_wp2_with fail;refine h9 _ _ ⟨_,(dV (ay ((aA Y.heap.size Y).drew) _)).choose_spec.symm⟩ ?_;clear h9 K9;refine bU (dF ?_);simp only[aW,aa,ae];go_upto_region 7 with fail;obtain⟨rb,kS⟩:∃y,Y.heap.size=y:=⟨_,rfl⟩;rw[kS]
    have hY:Vl E w attr f m b3 vS raw ((Y.alloc (D #[I J r1,I J r3] 88)).drew)/\Bk ((Y.alloc (D #[I J r1,I J r3] 88)).drew) rb #[I J r1,I J r3] 88/\b3<rb/\∀g,vS.ownBlock=O g->g<rb:=
     ⟨D8.q2.below dE,(au _ _ _ _ kS).drew,by have :=D8.q2.q3.lt;omega,λ g hg=>by have :=(D8.q2.row.lt g hg).2;omega⟩
    have hYb:Y.heap.size=rb:=kS;refine forget (λ V=>Vl E w attr f m b3 vS raw V/\Bk V rb #[I J r1,I J r3] 88/\b3<rb/\∀g,vS.ownBlock=O g->g<rb) hY ?_;have Wk:=dt D8.q1 D8.t2;clear hY D8 c0 q1 l1 q2 l2 qy ly d1 d2 MM kS hYb Qi hbR r2;clear Y;rintro V ⟨hV,hbr,hb3,hbo⟩;obtain⟨cr,lr⟩:=hbr.cl0;have HV:=iM hV hbr hb3 hbo;clear hV hbr hb3 hbo;go_upto_region 8 with(go_at_call 172;refine(D7 E HH.q1 w attr f m b3 vS raw _ HV.q1 ha HH.q6 HH.q7 HH.t7 (by have :=Wk.q1;omega) r1 (λ h1 h2=>Wk.q2 r1 (.inl rfl) h1 h2) Wk.q3).mono ?_;rintro e w2 ⟨rfl,vS2,afD,hV2,hl2,IL⟩;have MP:=fH hV2 hl2 IL;clear hV2 hl2 IL);have abO:Bk w2 rb #[I J r1,I J r3] 88:=HV.q2.only MP.t2 (λ e=>e.elim (λ e=>by have :=HV.t3 rb e;omega) (λ e=>by have :=HV.q3;omega));have hl3:afD.length<=2+2*k:=by have :=MP.q2;have :=Wk.q1;omega
    have HV3:=dt MP.q1 hl3;clear cr lr;obtain⟨cr,lr⟩:=abO.cl0;clear HV MP abO hl3;clear V;go_wp2_with (go_at_call 172;refine(D7 E HH.q1 w attr f m b3 vS2 afD _ HV3.q1 ha HH.q6 HH.q7 HH.t7 (by have :=HV3.t1;omega) (r3+1) (λ h1 h2=>Wk.q2 (r3+1) (.inr rfl) h1 h2) Wk.t3).mono ?_;rintro e w4 ⟨rfl,vS4,abP,hV4,hl4,Lj⟩;have HV4:=fH hV4 hl4 Lj;clear hV4 hl4 Lj);go_roundw
    case rel=>exact⟨k+1,vS4,abP,ar,gC,by have :=HV4.q2;have :=HV3.t1;omega,HV4.q1⟩
    case measure=>simp[intOf];omega
  · obtain rfl:k=zs.length:=ar
    obtain⟨bN,oN,A3,q3,A4,q4,hA1,vI,_,m1,_,_,Ai,_,hc3,_⟩:=mS HH.q1.nodes HH.q3;have m1:=(hV.ok.old.cell (p:=⟨bN,oN+n*4+1,U⟩) vI).trans m1;have vI:bN<wA.heap.size:=by have :=hV.ok.old.size;omega
    have hkf:=(Kv HH.q1.tab HH.q1.wL HH.q3).2;have ZV:=HH.q1.tab.cJ nd (az HH.q3);obtain⟨q,hq⟩:∃q,(decide (0<nd.kids.length)&&decide ((nd.attr:Int)=(attr:Int)))=q:=⟨_,rfl⟩;have lY:=λ(X:agb) (hX:E.ok f m X)=>Gl E HH.q1 f m n nd (attr:Int) X hX HH.q3;rw[hq,HS.o] at lY;have hNl:n<E.T.length:=(ai.1 HH.q3).1;have HV:=yJ hV BP Ai hkf ZV hq lY;obtain⟨q1,l1⟩:=hV.q1.cl0;rw[HS.o] at q1;obtain⟨q2,l2⟩:=hV.q2.cl0;clear hV BP Ai hkf ZV hq lY hc3;go_upto_region 10 with fail;go_upto_if 60 with(go_at_call 94;refine(HV.t6 _ HV.q1.ok).mono ?_;rintro e w2 ⟨rfl,hb⟩;have HB:=aG hb;clear hb);have hV2:Vl E w attr f m b3 vS raw w2:=HV.q1.below HB.o;have e1:=(HB.o.cell (p:=⟨bN,oN+n*4+1,U⟩) vI).trans m1;have afG:bN<w2.heap.size:=by have :=HB.o.size;omega
    have MP:=aG hV2;have HE3:=aG HV.q3;clear hV2 HB m1 q1 l1 q2 l2 vI;go_cut [] (λ X'=>∃vS raw,Vl E w attr f m b3 vS raw X'/\raw.length<=600000)
    case first =>
     cases q with
     |false=>
      go_wp2_with fail;go_meet;exact⟨vS,raw,MP.o,by have :=HV.q2;omega⟩
     |true=>
      have hat:nd.attr=attr:=by have h:=HV.q6;rw[aD,decide_eq_true_eq,decide_eq_true_eq] at h;omega
      have hcut:∀c∈nd.cJ,c∈mA (bc E.rs) aP attr:=λ c hc=>by have :=HV.q5 c hc;rw[hat] at this;exact this
      have HC:=fH hcut HV.q4 HV.q2;clear hat hcut HV;have c1:=MP.o.ok.cells.2.1;rw[hA1,HS.o] at c1;have MM:sb<w2.heap.size:=by rw[<-HS.o];exact MP.o.ok.box.lt
      obtain⟨q1,l1⟩:=MP.o.q1.cl0;rw[HS.o] at q1;obtain⟨q2,l2⟩:=MP.o.q2.cl0;have XW:(n:Int)<(E.T.length:Int):=ar;obtain⟨nT,MK⟩:∃x,E.T.length=x:=⟨_,rfl⟩;obtain⟨cT,ZT⟩:∃x,E.c1=x:=⟨_,rfl⟩;rw[MK,ZT] at c1;rw[MK] at XW;clear MK ZT hNl hA1;go_wp2_with fail;go_loopw [71] (λ i wr=>∃(j:Nat) (vS:R) (raw:List Int),j<=nd.cJ.length/\i=I J j/\raw.length<=1+2*zs.length+j/\Vl E w attr f m b3 vS raw wr) (λ i _=>nd.cJ.length - (intOf i).toNat)
      case atStart=>exact⟨0,_,_,ak _,rfl,HC.t2,MP.o⟩
      case round=>
       clear MP c1 MM q1 l1 q2 l2 e1 afG;clear w2;obtain⟨j,vS,raw,hj,rfl,BP,hV⟩:=hrel;generalize wr=wB at *;have Ai:=HE3.o.keep hV.ok.old hV.ok.old.size;by_cases hlt:j<nd.cJ.length
       · as_aux_lemma=>
         have rE:(j:Int)<(nd.cJ.length:Int):=ar;obtain⟨b,off,c,rfl,hb,hm,_,d0,f1,f2⟩:=Ai.fC hlt;have hcm:c∈mA (bc E.rs) aP attr:=HC.q1 c (az (‹Hid (nd.cJ[j]?=O c)›).o);have HB:=fH hV BP hcm;have hl9:raw.length<=1000000000:=by have :=HC.q2;omega
         have HJ:=aG hlt;have hcb:=HC.q2;clear hV Ai BP hcm hm;go_wp2_with (go_at_call 172;refine(D7 E HH.q1 w attr f m b3 vS raw _ HB.q1 ha HH.q6 HH.q7 HH.t7 hl9 c (λ _ _=>HB.t2) ⟨f1,f2⟩).mono ?_;rintro e w4 ⟨rfl,vS4,abP,hV4,hl4,Lj⟩;have HV4:=fH hV4 hl4 Lj;clear hV4 hl4 Lj);go_roundw
         case rel=>exact⟨j+1,vS4,abP,HJ.o,gC,by have :=HV4.q2;have :=HB.q2;omega,HV4.q1⟩
         case measure=>have :=HJ.o;simp[intOf];omega
       · obtain rfl:j=nd.cJ.length:=ar
         have HB:=dt hV BP;clear hV BP Ai;go_wp2_with fail;go_meet;exact⟨vS,raw,HB.q1,by have :=HB.t1;have :=HC.q2;omega⟩
    case rest=>
    clear HV MP HE3 e1 afG hNl hA1;clear w2;clear vS raw;obtain⟨vS,raw,hV,BP⟩:=hcut;obtain⟨A,c,rfl,hc1,hc2⟩:=hV.row.form;obtain⟨q3,l3⟩:=hV.q3.cl0;have hsc:=Ys hV.all;have HV:=fH hV BP hsc;clear hV BP hc1 hc2 hsc;go_upto_region 17 with(go_at_call 39;refine(yh _ _ _ _ _ HV.q1.row (by have :=HV.q2;omega)).mono ?_;rintro e w4 ⟨rfl,k1,k2⟩;have HK:=dt k1 k2;clear k1 k2);have N4:Bk w4 b3 #[G A raw.length c] 117:=HV.q1.q3.only HK.t1 (λ e=>iT HV.q1.row HV.q1.q3 cj b3 e rfl);have afH:aZ w w4:=HV.q1.low.trans (HK.t1.aK (λ g hg=>by have :=(HV.q1.row.lt g hg).1;omega) HV.q1.low.size);have HL:=fH afH HK.q1 HV.t2;clear q3 l3;obtain⟨q3,l3⟩:=N4.cl0;clear N4 afH HK HV;clear wc;go_wp2_with (go_at_call 40;refine(qE _ _ _ _ _ HL.q2).mono ?_;rintro e w5 ⟨A5,c5,rfl,k1,k2,k3⟩;have HK:=fH k1 k2 k3;clear k1 k2 k3);go_ret;refine⟨A5,c5,N5 raw,rfl,HK.q1.weaken ar,HL.q1.trans (HK.t2.aK (λ g hg=>by have :=(HL.q2.lt g hg).1;omega) HL.q1.size),HL.t3,HL.q3⟩
def EM(l:List (Int×Int)):List UInt8:=l.flatMap λ x=>(Lib.itoa x.1++[46])++(Lib.itoa x.2++[32])
theorem Uv{l:List (Int×Int)}{k:Nat}{x:Int×Int}(h:l[k]?=O x):EM (l.take (k+1))=EM (l.take k)++((Lib.itoa x.1++[46])++(Lib.itoa x.2++[32])):=by unfold EM;rw[bu,h,eJ];simp
theorem Oy{l:List (Int×Int)}(h:∀x∈l,fits x.1/\fits x.2):(EM l).length<=44*l.length:=by
 induction l with
 |nil=>simp[EM]
 |cons x r ih=>
  have h1:=ih λ l hl=>h l (by simp[hl]);have h2:=h x bY;have h3:=Lib.itoa_length_le x.1 h2.1.1 h2.1.2;have h4:=Lib.itoa_length_le x.2 h2.2.1 h2.2.2;have e:EM (x::r)=((Lib.itoa x.1++[46])++(Lib.itoa x.2++[32]))++EM r:=by simp[EM]
  rw[e];simp only[ax,bD,dG];omega
theorem Im:Flat IQ:=rA iP iP
theorem EG{α:Type}{T:Ty α}{e:TypeId}{X:agb}{base B:Nat}{A:dB}{n c:Nat}{xs:List α}(hT:Flat T)(h:cH T e X base B (G A n c) xs)(hn:0<xs.length):
 ∃g cur,A=O ⟨g,0,U⟩/\base<=g/\Bk X g cur e/\∀X',Bk X' g cur e->ic T X' A xs:=by
 obtain⟨css,h1,h2,h3,h4⟩:=h;rcases h4 with⟨q,q2⟩|⟨g,cap,cur,q,hb,hk,q3,q4,q5,q6⟩
 · omega
 · injection q with qa qb qc
   subst qa qb;refine⟨g,cur,rfl,hb,hk,λ X' qq=>?_⟩;have h':cH T e X' base 0 (G (O ⟨g,0,U⟩) xs.length c) xs:=⟨css,h1,λ i a b=>hT (h2 i a b),h3,.inr ⟨g,cap,cur,by rw[qc],hb,qq,q3,q4,q5,q6⟩⟩;exact h'.elems (ak _) (ah _)
theorem Qu{X:agb}{g base:Nat}{a b:Int}(h:Bk X g #[I J a,I J b] 133)(hb:base<=g)(ha:fits a)(hb2:fits b):cH IQ 133 X base 0 (G (O ⟨g,0,U⟩) 1 1) [(a,b)]:=
 ⟨[[I J a,I J b]],rfl,λ i h1 h2=>by
   have :i=0:=by simp at h1;omega
   subst this;exact⟨[I J a],[I J b],rfl,⟨rfl,ha⟩,⟨rfl,hb2⟩⟩,rfl,.inr ⟨g,1,_,rfl,hb,h,ah _,by unfold maxLen;omega,rfl,rfl⟩⟩
theorem Uw(w:agb)(B:Nat)(cs:List R)(x:Int×Int)(h:IQ.rd w B cs x):∀u∈cs,u.oneCell'=true:=by obtain⟨c1,c2,rfl,⟨rfl,_⟩,⟨rfl,_⟩⟩:=h;intro u hu;simp only[eU,eV,aR,bH,or_false] at hu;rcases hu with rfl|rfl<;>rfl
theorem Oz{w:agb}{B:Nat}{A:dB}{l:List (Int×Int)}(h:cG IQ w B A l):∀x∈l,fits x.1/\fits x.2:=λ x hx=>by obtain⟨i,hi,rfl⟩:=bo.1 hx;obtain⟨_,_,cs,_,_,⟨c1,c2,_,⟨_,h1⟩,⟨_,h2⟩⟩,_⟩:=h i hi;exact⟨h1,h2⟩
theorem tC{T e:TypeId}{B b:Nat}{bs:List R}{w w':agb}(h:Lib.IsBuilderF T e B b bs w)(hb:aZ w w'):Lib.IsBuilderF T e B b bs w':=by
 have key:∀{p:R},Lib.BuilderAtF T e B b p bs w->Lib.BuilderAtF T e B b p bs w':=λ h=>by
  obtain⟨h1,v,h2,h3,h4⟩:=h;have hlt:b<w.heap.size:=(iX.1 h2).1;refine⟨h1,v,(hb.block b hlt).trans h2,⟨h3.1,?_⟩,h4⟩;rcases h3.2 with q|⟨g,cap,cur,fz,q1,q2,q3,q4⟩
  · exact .inl q
  · exact .inr ⟨g,cap,cur,fz,q1,q2,(hb.block g ((iX.1 q3).1)).trans q3,q4⟩
 exact h.imp key key
theorem Yt(attr node:Int)(AL:dB)(cL:Nat)(zs:List (Int×Int))(w:agb)(hz:ic IQ w AL zs)(hzl:zs.length<=100000)(hca:zs.length<=cL/\cL<=maxLen)(fa:fits attr)(fb:fits node)(ht:nu w):
 Calls prog 92 #[I J attr,I J node,G AL zs.length cL] w λ e w'=>e=.returned (.string ⟨(EM ((attr,node)::zs)).toArray⟩)/\aZ w w':=by
 have HH:=lQ hz hca fa fb ht;clear hz hca fa fb ht;go_enter func92,ntmps92;go_upto_region 2 with(fail);refine forget (λ X=>aZ w X/\Bk X w.heap.size #[M U,G U 0 0] 200) ⟨aj _ _,au _ _ _ _ rfl⟩ ?_;rintro X ⟨hX,hb⟩;have HX:=dt hX hb;clear hX hb;have hXs:w.heap.size<X.heap.size:=HX.t1.lt;obtain⟨css,f1,f2,f3,f4,f5⟩:=HH.q1.flat;have HF:=iM f1 f2 f4 f5;clear f1 f2 f3 f4 f5
 go_upto_region 3 with(at_builtin;first
  |(go_loud (refine en (T:=IQ) (e:=133) (base:=w.heap.size+1) (B:=0) (qs:=[(attr,node)]) rfl _ _ 131 rfl 16 underlying131 aV cj Uw rfl (Qu (au _ _ _ _ rfl) ar HH.q3 HH.q4) AL zs.length cL zs css rfl rfl HF.q1 (λ i h1 h2=>Im (HF.q2 i h1 h2)) (uJ HF.t3 (aq HX.q1 dE)) (by unfold maxLen;simp;omega) gW gW (ak _) ?_);intro A9 c9 w9 iO kH kT J0;have mB:Below (w.heap.size+1) X w9:=((aA (w.heap.size+1) X).alloc ar _).trans kH;have H9:=dt iO mB;clear mB;clear iO kH kT J0))
 obtain⟨ls,hls⟩:∃ls,(attr,node)::zs=ls:=⟨_,rfl⟩;have ZW:[(attr,node)]++zs=ls:=hls;have xV:ls.length=1+zs.length:=by rw[<-hls];simp;omega
 obtain⟨n,hn⟩:∃n,1+zs.length=n:=⟨_,rfl⟩;have HLS:=dt hls xV;rw[ZW] at H9;have XW:1+(zs.length:Int)=(n:Int):=ar;have JC:[(attr,node)].length+zs.length=n:=by simp;omega
 rw[JC] at H9;rw[hn,XW];have nS:n<=100001:=ar;have O1:=EG Im H9.q1 ar;obtain⟨gr,cur,rfl,hgr,E6,hrow⟩:=O1;have ZX:aZ w w9:=HX.q1.trans (H9.t1.mono ar);have afJ:Lib.IsBuilderF 200 5 w.heap.size w.heap.size [] w9:=.inl ⟨ah _,G U 0 0,HX.t1.sj H9.t1 ar,⟨rfl,.inl ⟨rfl,rfl⟩⟩,by simp[Value.ownBlock]⟩;have hE9:=hrow w9 E6;have ZY:=Oz hE9
 have kq:∀k,(EM (ls.take k)).length<=5000000:=λ k=>by
  have :=Oy (l:=ls.take k) (λ x hx=>ZY x (jB hx));have h2:(ls.take k).length<=ls.length:=by rw[dh];omega
  omega
 have HR:=lQ hrow kq hls xV hgr;have H9':=fH ZX afJ E6;clear hrow kq hls xV hgr E6 ZX afJ hE9 ZY ZW JC H9 HF HX HLS hXs XW;have WS:Hid (n=ls.length):=aG (by have :=HR.q4;omega);clear hn;go_wp2_with fail;go_loopw [17] (λ i wr=>∃k:Nat,k<=n/\i=I J k/\aZ w wr/\Lib.IsBuilderF 200 5 w.heap.size w.heap.size (Lib.byteCells (EM (ls.take k))) wr/\Bk wr gr cur 133) (λ i _=>n - (intOf i).toNat)
 case atStart=>exact⟨0,ak _,rfl,H9'.q1,by simpa [EM,Lib.byteCells] using H9'.q2,H9'.t2⟩
 case round=>
  obtain⟨k,hk,rfl,bI,hb,E6⟩:=hrel;clear H9';clear w9;generalize wr=wA at *;by_cases hlt:k<n
  · as_aux_lemma=>
    have kq:(k:Int)<(n:Int):=ar;have hE:=HR.q1 wA E6;obtain⟨bL,oL,x,cs,hA9,Ge,_,hx,ZU,⟨c1,c2,rfl,⟨rfl,fa1,fa2⟩,⟨rfl,fb1,Uu⟩⟩,hc⟩:=hE.pick (k:=k) (by have :=WS.o;omega);injection hA9 with hA9
    injection hA9 with aku akv
    subst aku akv;have e0:wA.cell? ⟨gr,k*2,U⟩=O (I J x.1):=by have h:=hc 0 _ rfl;rw[bX] at h;exact h
    have e1:wA.cell? ⟨gr,k*2+1,U⟩=O (I J x.2):=by have h:=hc 1 _ rfl;rw[bX] at h;exact h
    have hst:=Uv hx;have Zd:=HR.q2 k;have HA:=lQ bI hb E6 hst Zd;clear bI hb E6 hst Zd hE hc hx ZU;have h1:=Lib.itoa_length_le x.1 fa1 fa2;have h2:=Lib.itoa_length_le x.2 fb1 Uu;obtain⟨I1,hI1⟩:∃aad:BA0,aad=⟨(Lib.itoa x.1).toArray⟩:=⟨_,rfl⟩;obtain⟨I2,hI2⟩:∃aad:BA0,aad=⟨(Lib.itoa x.2).toArray⟩:=⟨_,rfl⟩;have arq:I1.size<=21:=by rw[hI1,tY];exact h1
    have art:I2.size<=21:=by rw[hI2,tY];exact h2
    have Ux:=λ(w:agb) (ht:nu w)=>Cw x.1 fa1 fa2 w ht;have Uy:=λ(w:agb) (ht:nu w)=>Cw x.2 fb1 Uu w ht;rw[<-hI1] at Ux;rw[<-hI2] at Uy
    have pD:Lib.byteCells (EM (ls.take k))++Lib.strCells (I1++(⟨#[46]⟩:BA0)++I2++(⟨#[32]⟩:BA0))=Lib.byteCells (EM (ls.take (k+1))):=by rw[HA.q4,hI1,hI2];simp[Lib.byteCells,Lib.strCells]
    have hbl:(Lib.byteCells (EM (ls.take k))).length<=5000000:=by have :=HA.t4;simp only[Lib.byteCells,bB];exact this
    have HB:=iM Ux Uy pD hbl;clear Ux Uy pD hbl hI1 hI2 h1 h2;go_upto_region 5 with fail;obtain⟨y1,WC⟩:∃y,x.1=y:=⟨_,rfl⟩;obtain⟨y2,WD⟩:∃y,x.2=y:=⟨_,rfl⟩;obtain⟨yb,yL⟩:∃y,wA.heap.size=y:=⟨_,rfl⟩;rw[WC,WD,yL];rw[WC,WD] at HB;have N3:=(HA.q2)
    have hY:aZ w (wA.alloc (D #[I J y1,I J y2] 133))/\Lib.IsBuilderF 200 5 w.heap.size w.heap.size (Lib.byteCells (EM (ls.take k))) (wA.alloc (D #[I J y1,I J y2] 133))/\Bk (wA.alloc (D #[I J y1,I J y2] 133)) gr cur 133/\Bk (wA.alloc (D #[I J y1,I J y2] 133)) yb #[I J y1,I J y2] 133:=
     ⟨ay HA.q1 _,tC HA.q2 (aj _ _),HA.q3.alloc _,au _ _ _ _ yL⟩
    refine forget (λ Y=>aZ w Y/\Lib.IsBuilderF 200 5 w.heap.size w.heap.size (Lib.byteCells (EM (ls.take k))) Y/\Bk Y gr cur 133/\Bk Y yb #[I J y1,I J y2] 133) hY ?_;clear hY e0 e1 yL HA WC WD N3;rintro Y ⟨k1,k2,k3,k4⟩;obtain⟨cy,ly⟩:=k4.cl0;have HY:=fH k1 k2 k3;clear k1 k2 k3 k4;refine ed (λ w'=>∃u,w'=ext Y u) [([0,1,4,5],[2]),([3],[6]),([7,8],[])] 9 aV aV ⟨_,(dV ((aA Y.heap.size Y).drew)).choose_spec.symm⟩ ?_;obtain⟨u0,hu0⟩:∃u,ext Y u=Y.drew:=dV ((aA Y.heap.size Y).drew);rw[<-hu0];clear hu0;(refine bT (λ K9 h9=>?_);simp only[aH,aU,aW,aa,ae];(repeat(go_big_quiet_step (fail)));refine wpQuiet_nil (h9 _ ?_);clear h9 K9)
    (refine cM (λ K9 h9=>?_);simp only[aW,aa,ae])
    go_wp2_with (go_at_call 83;refine(HB.q1 _ (HH.t4.below (Below.jN HY.q1 _))).mono ?_;rintro e w2 ⟨rfl,z1⟩;obtain⟨u1,rfl⟩:=gI z1;clear z1);refine h9 _ _ ⟨_,rfl⟩ ?_;clear h9 K9;refine bU ?_;(refine bT (λ K9 h9=>?_);simp only[aH,aU,aW,aa,ae];(repeat(go_big_quiet_step (fail)));refine wpQuiet_nil (h9 _ ?_);clear h9 K9)
    (refine cM (λ K9 h9=>?_);simp only[aW,aa,ae])
    go_wp2_with (go_at_call 83;refine(HB.q2 _ (HH.t4.below (Below.jN HY.q1 _))).mono ?_;rintro e w2 ⟨rfl,z1⟩;obtain⟨u2,rfl⟩:=gI z1;clear z1);refine h9 _ _ ⟨_,rfl⟩ ?_;clear h9 K9;refine bU ?_;(refine bT (λ K9 h9=>?_);simp only[aH,aU,aW,aa,ae];(repeat(go_big_quiet_step (fail)));refine wpQuiet_nil (h9 _ ?_);clear h9 K9)
    refine bU (dF ?_);simp only[aW,aa,ae];have ZZ:aZ w (ext Y u2):=Below.jN HY.q1 _;have hz3:=ZZ.size;go_upto_region 6 with(go_at_call 82;refine(Any.Builder_WriteString_k Tryz.Nr Tryz.qp w.heap.size w.heap.size (Lib.byteCells (EM (ls.take k))) (I1++(⟨#[46]⟩:BA0)++I2++(⟨#[32]⟩:BA0)) _ (tC HY.q2 (aT Y u2)) (by have :=HB.t3;rw[ByteArray.size_append,ByteArray.size_append,ByteArray.size_append];have :(⟨#[46]⟩:BA0).size=1:=rfl;have :(⟨#[32]⟩:BA0).size=1:=rfl;omega) hz3).mono ?_;rintro e w3 ⟨rfl,z1,z2,z3⟩;have Q8:=fH z1 z2 z3;clear z1 z2 z3);go_wp2_with fail;go_roundw
    case rel=>refine⟨k+1,ar,gC,ZZ.trans Q8.q2,by rw[<-HB.q3];exact .inr Q8.q1,?_⟩;exact Q8.t2 gr _ (HY.t2.ext u2) (λ e=>by injection e with e;have :=HR.t4;omega) (λ c fz e=>by cases e)
    case measure=>simp[intOf];omega
  · as_aux_lemma=>obtain rfl:k=n:=ar;have hl2:ls.take k=ls:=cU (by have :=WS.o;omega);rw[hl2] at hb;have HA:=dt bI hb;clear bI hb hl2;have hz:=HA.q1.size;go_wp2_with (go_at_call 85;refine(Tryz.Builder_String_any_k w.heap.size w.heap.size (EM ls) _ HA.t1 hz).mono ?_;rintro e w2 ⟨rfl,z1,z2,z3⟩;have HZ:=aG z2;clear z1 z2 z3);go_ret;refine⟨?_,HA.q1.trans HZ.o⟩;show Ending.returned (.string ⟨(EM ls).toArray⟩)=_;rw[HR.q3]
end
section
open Go.RowKit Go.Maps
theorem jR{P:Program}{w:agb}{d:Nat}{f:Field}{fs:List Field}{xs ys:Array R}{u v:R}{b r:Bool}(hn:decide (f.name= "_")=false)(h1:(part f.type xs f.offset).run P w=.ok u w)(h2:(part f.type ys f.offset).run P w=.ok v w)
 (h3:(Op.equalIn d f.type u v).run P w=.ok b w)(h4:(Op.eqFields d xs ys fs).run P w=.ok r w):(Op.eqFields d xs ys (f::fs)).run P w=.ok (b&&r) w:=by
 have WS:f.name≠ "_" :=of_decide_eq_false hn;simp only[Op.eqFields,Sem.run_ite,if_pos WS,Sem.run_bind,h1,h2,h3,Result.andThen_ok];cases b
 · simp
 · simp[h4]
theorem OA{P:Program}{w:agb}{d:Nat}{xs ys:Array R}:(Op.eqFields d xs ys []).run P w=.ok true w:=by simp[Op.eqFields]
theorem rU(a b c e:Int)(w:agb)(d:Nat):(Op.equalIn (d+2) 46 (.agg #[I J a,I J b]) (.agg #[I J c,I J e])).run prog w=.ok ((a==c)&&((b==e)&&true)) w:=by rw[run_equalIn_agg w (d+1) 46 _ _ aV aV];simp only[Program.fieldsOf,underlying46];exact jR cj aV aV (run_equalIn_int w d 3 .i64 .i64 a c aJ) (jR cj aV aV (run_equalIn_int w d 3 .i64 .i64 b e aJ) OA)
theorem KC{al tg si:Bool}{lim price fn fd tn td cn cd sn sd rn rd y:Int}{al' Uz UA:Bool}{uu pT UB UC UD UE UF Ib xw xz xA xB y':Int}(w:agb):(Op.equalIn 10000 63 (.agg (kF al tg si lim price fn fd tn td cn cd sn sd rn rd y)) (.agg (kF al' Uz UA uu pT UB UC UD UE UF Ib xw xz xA xB y'))).run prog w=.ok ((al==al')&&((tg==Uz)&&((si==UA)&&((lim==uu)&&((price==pT)&&(((fn==UB)&&((fd==UC)&&true))&&(((tn==UD)&&((td==UE)&&true))&&(((cn==UF)&&((cd==Ib)&&true))&&(((sn==xw)&&((sd==xz)&&true))&&(((rn==xA)&&((rd==xB)&&true))&&((y==y')&&true))))))))))) w:=by rw[run_equalIn_agg w 9999 63 _ _ aV aV];simp only[Program.fieldsOf,gH];exact jR cj aV aV (run_equalIn_bool' w 9998 4 al al' dW) (jR cj aV aV (run_equalIn_bool' w 9998 4 tg Uz dW) (jR cj aV aV (run_equalIn_bool' w 9998 4 si UA dW) (jR cj aV aV (run_equalIn_int w 9998 3 .i64 .i64 lim uu aJ) (jR cj aV aV (run_equalIn_int w 9998 3 .i64 .i64 price pT aJ) (jR cj aV aV (rU fn fd UB UC w 9997) (jR cj aV aV (rU tn td UD UE w 9997) (jR cj aV aV (rU cn cd UF Ib w 9997) (jR cj aV aV (rU sn sd xw xz w 9997) (jR cj aV aV (rU rn rd xA xB w 9997) (jR cj aV aV (run_equalIn_int w 9998 3 .i64 .i64 y y' aJ) (OA)))))))))))
theorem UG{al tg si:Bool}{lim price fn fd tn td cn cd sn sd rn rd y:Int}{al' Uz UA:Bool}{uu pT UB UC UD UE UF Ib xw xz xA xB y':Int}:((al==al')&&((tg==Uz)&&((si==UA)&&((lim==uu)&&((price==pT)&&(((fn==UB)&&((fd==UC)&&true))&&(((tn==UD)&&((td==UE)&&true))&&(((cn==UF)&&((cd==Ib)&&true))&&(((sn==xw)&&((sd==xz)&&true))&&(((rn==xA)&&((rd==xB)&&true))&&((y==y')&&true)))))))))))=true↔kF al tg si lim price fn fd tn td cn cd sn sd rn rd y=kF al' Uz UA uu pT UB UC UD UE UF Ib xw xz xA xB y':=by
 unfold kF;simp only[aD,beq_iff_eq,Bool.and_true];constructor
 · rintro⟨rfl,rfl,rfl,rfl,rfl,⟨rfl,rfl⟩,⟨rfl,rfl⟩,⟨rfl,rfl⟩,⟨rfl,rfl⟩,⟨rfl,rfl⟩,rfl⟩
   rfl
 · intro h
   simp only[Array.mk.injEq,iq,Value.bool.injEq,Value.int.injEq,true_and,and_true] at h;obtain⟨h1,h2,h3,h4,h5,h6,h7,h8,h9,h10,h11,Lh,Li,h14,h15,h16⟩:=h;exact⟨h1,h2,h3,h4,h5,⟨h6,h7⟩,⟨h8,h9⟩,⟨h10,h11⟩,⟨Lh,Li⟩,⟨h14,h15⟩,h16⟩
theorem OB(al tg si:Bool)(lim price fn fd tn td cn cd sn sd rn rd y:Int)(al' Uz UA:Bool)(uu pT UB UC UD UE UF Ib xw xz xA xB y':Int):∃b:Bool,(∀w,(binOp .eql 63 (.agg (kF al tg si lim price fn fd tn td cn cd sn sd rn rd y)) (.agg (kF al' Uz UA uu pT UB UC UD UE UF Ib xw xz xA xB y'))).run prog w=.ok (.bool b) w)/\(∀w,(binOp .neq 63 (.agg (kF al tg si lim price fn fd tn td cn cd sn sd rn rd y)) (.agg (kF al' Uz UA uu pT UB UC UD UE UF Ib xw xz xA xB y'))).run prog w=.ok (.bool (!b)) w)/\(b=true↔kF al tg si lim price fn fd tn td cn cd sn sd rn rd y=kF al' Uz UA uu pT UB UC UD UE UF Ib xw xz xA xB y'):=by
 refine⟨(al==al')&&((tg==Uz)&&((si==UA)&&((lim==uu)&&((price==pT)&&(((fn==UB)&&((fd==UC)&&true))&&(((tn==UD)&&((td==UE)&&true))&&(((cn==UF)&&((cd==Ib)&&true))&&(((sn==xw)&&((sd==xz)&&true))&&(((rn==xA)&&((rd==xB)&&true))&&((y==y')&&true)))))))))),λ w=>?_,λ w=>?_,UG⟩
 · rw[run_eql_struct,KC]
   rfl
 · rw[run_neq_struct,KC]
   rfl
theorem UH(s t:JS):∃b:Bool,(∀w,(binOp .eql 63 (.agg (vG s)) (.agg (vG t))).run prog w=.ok (.bool b) w)/\(∀w,(binOp .neq 63 (.agg (vG s)) (.agg (vG t))).run prog w=.ok (.bool (!b)) w)/\(b=true↔vG s=vG t):=
 OB _ _ _ _ _ _ _ _ _ _ _ _ _ _ _ _ _ _ _ _ _ _ _ _ _ _ _ _ _ _ _ _
theorem UI(s:JS)(w:agb):(binOp .neq 63 (.agg (vG s)) (.agg (vG s))).run prog w=.ok (.bool false) w:=by obtain⟨b,_,h2,h3⟩:=UH s s;rw[h2 w,h3.2 rfl];rfl
end
section
open Go.RowKit
section
variable(Z:List Zn)(lim:Zn)(aap:Nat->Nat)(need:List Nat)(W:Fc->Bool)
def D9(alive:List Nat):Prop:=∀r∈need,∃z∈alive,aap z=r
def lS(attr:Nat)(alive:List Nat):Prop:=∃g,g.length=10/\ik lim g/\cu Z attr g=alive/\D9 aap need (cu Z 10 g)/\W g=true
def E7(attr:Nat)(f:Fc):Prop:=∀a,a<attr->(atR lim a).1<=eO f a/\eO f a<=(atR lim a).2
variable{Z lim aap need W}
theorem KD(Z:List Zn)(g:Fc):∀(k a:Nat),∀z∈cu Z (a+k) g,z∈cu Z a g
 |0,a,z,h=>h
 |k+1,a,z,h=>by
  rw[show a+(k+1)=(a+k)+1 from ar,nV] at h;exact KD Z g k a z (dY.1 h).1
theorem UJ{attr:Nat}{alive:List Nat}(ha:attr<=10)(h:¬D9 aap need alive):¬lS Z lim aap need W attr alive:=λ⟨g,_,_,hl,hn,_⟩=>h λ r hr=>by obtain⟨z,hz,e⟩:=hn r hr;refine⟨z,?_,e⟩;rw[<-hl];exact KD Z g (10 - attr) attr z (by rwa [show attr+(10 - attr)=10 from ar])
theorem Qv{alive:List Nat}{f:Fc}(hW:∀f g,cu Z 10 f=cu Z 10 g->W f=W g)(hl:cu Z 10 f=alive)(h:W f=false):¬lS Z lim aap need W 10 alive:=λ⟨g,_,_,hg,_,hw⟩=>by rw[hW g f (by rw[hg,hl]),h] at hw;cases hw
theorem Qw{attr:Nat}{alive:List Nat}(ha:attr<10)(h:∀c∈stA Z lim attr alive,¬lS Z lim aap need W (attr+1) (gg Z attr alive c)):¬lS Z lim aap need W attr alive:=λ⟨g,hg,hw,hl,hn,hW⟩=>by
 obtain⟨hp,hh,hm⟩:=lU Z lim attr alive;obtain⟨i,c,hi,hc,hr⟩:=vV (stA Z lim attr alive) (eO g attr) (atR lim attr).1 hp hh (hw attr ha).1;have hcm:c∈stA Z lim attr alive:=az hi;have nA:(atR lim attr).1<=c:=(nC ((hm c).1 hcm)).1;refine h c hcm ⟨g,hg,hw,?_,hn,hW⟩
 have OC:=Cs (Z:=Z) (attr:=attr) (live:=alive) nA hc (hw attr ha).2 λ d hd hcd=>by
  obtain⟨j,hj⟩:=List.mem_iff_getElem?.1 ((hm d).2 hd);rcases eC i j with VX|VX
  · have :=hr j d hj VX
    omega
  · rcases Nat.lt_or_eq_of_le VX with VX|rfl
    · obtain⟨hil,rfl⟩:=ai.1 hi
      obtain⟨rE,rfl⟩:=ai.1 hj;have :=eG.1 hp j i rE hil VX;omega
    · rw[hi] at hj
      cases hj
      omega
 rw[nV,hl];unfold gg;refine List.filter_congr λ z hz=>?_;rw[<-OC z hz]
theorem UK{attr:Nat}{alive:List Nat}{c:Int}(BM:(atR lim attr).1<=(atR lim attr).2)(hc:c∈stA Z lim attr alive):(atR lim attr).1<=c/\c<=(atR lim attr).2:=by obtain⟨h1,h2⟩:=nC (((lU Z lim attr alive).2.2 c).1 hc);exact⟨h1,by rcases h2 with rfl|h2<;>omega⟩
theorem E7.set{attr:Nat}{f:Fc}(h:E7 lim attr f)(hf:attr<f.length){c:Int}(hc:(atR lim attr).1<=c/\c<=(atR lim attr).2):E7 lim (attr+1) (f.set attr c):=λ a ha=>by
 unfold eO;rcases eC a attr with hlt|O4
 · rw[av,List.getElem?_set_ne ar,<-av]
   exact h a hlt
 · obtain rfl:a=attr:=ar
   rw[av,List.getElem?_set_self hf];exact hc
def pU(Z:List Zn)(lo hi:Int)(attr:Nat)(alive:List Nat):List Int:=
 lo::alive.flatMap λ z=>(atR (dK Z z) attr).1::if(atR (dK Z z) attr).2<hi then [(atR (dK Z z) attr).2+1] else []
theorem Qx{lo hi:Int}{attr:Nat}{alive:List Nat}(h:∀z∈alive,lo<=(atR (dK Z z) attr).1/\(atR (dK Z z) attr).1<=(atR (dK Z z) attr).2/\(atR (dK Z z) attr).2<=hi):N5 (pU Z lo hi attr alive)=N5 (fI Z lo hi attr alive):=by
 refine N8 (sK _).1 (sK _).1 λ x=>?_;rw[(sK _).2,(sK _).2];unfold pU fI;simp only[aR,dP,dY,bH,or_false,aD,decide_eq_true_eq];constructor
 · rintro(rfl|⟨z,hz,hx⟩)
   · exact .inl rfl
   · obtain⟨h1,h2,h3⟩:=h z hz
     rcases hx with rfl|hx
     · by_cases he:(atR (dK Z z) attr).1=lo
       · exact .inl he
       · exact .inr ⟨z,hz,.inl rfl,ar,ar⟩
     · split at hx
       · rw[aN] at hx
         exact .inr ⟨z,hz,.inr hx,ar,ar⟩
       · cases hx
 · rintro(rfl|⟨z,hz,hx,nA,zl⟩)
   · exact .inl rfl
   · refine .inr ⟨z,hz,?_⟩
     rcases hx with rfl|rfl
     · exact .inl rfl
     · refine .inr ?_
       rw[if_pos ar];exact aN.2 rfl
theorem Qy(Z:List Zn)(lo hi:Int)(attr:Nat)(alive:List Nat):(pU Z lo hi attr alive).length<=1+2*alive.length:=by
 unfold pU;rw[bD]
 have :∀l:List Nat,(l.flatMap λ z=>(atR (dK Z z) attr).1::if(atR (dK Z z) attr).2<hi then [(atR (dK Z z) attr).2+1] else []).length<=2*l.length:=by
  intro l;induction l with
  |nil=>simp
  |cons z l ih=>
   rw[gZ,ax,bD,bD];split<;>simp only[bD,dG]<;>omega
 have :=this alive;omega
end
end
section
open Go.RowKit Go.Maps
attribute [local go_sem] aQ aC bW
def Ve.KE(E:Ve)(k:Nat):Prop:=∀(zs:List (Int×Int))(f:Fc)(n m:Nat)(w:agb)(AL:dB)(cL:Nat)(a:Int),a=((10 - k:Nat):Int)->E.ok f m w->
 ic IQ w AL zs->(∀g off,AL=O ⟨g,off,U⟩->g≠E.sb/\g≠E.mb)->(zs.length<=cL/\cL<=maxLen)->zs.length<=100000->(∀l∈zs,Yr E.rs l)->E7 aP (10 - k) f->Kw aP (iK E.rs) E.T E.Lv (10 - k) f n->
 m+il (cA (bc E.rs) aP) k<=10995116277760->
 Calls prog 43 #[M (O ⟨E.sb,0,U⟩),I J a,G AL zs.length cL,I J (n:Nat)] w λ e w'=>e=.returned (.bool false)/\∃f' m',E.ok f' m' w'/\Only (λ g=>g=E.sb\/g=E.mb) w w'/\(∀i,i<10 - k->eO f' i=eO f i)/\m<=m'/\m'<=m+il (cA (bc E.rs) aP) k
theorem Ve.leaf(E:Ve)(hs:E.st):E.KE 0:=by
 intro zs f n m w AL cL a ha h hz Ui Ol hzl hzv rM KG hm;have hW:ik aP f:=λ a ha=>rM a ar;obtain⟨nd,nJ,hk,hlv⟩:=Kw.leaf hs.tab KG hW;have hD:=wK (f:=f) (zJ hs.rules) (by have :=hs.few;omega);obtain⟨bN,oN,A3,q3,A4,q4,hA1,vI,m0,m1,m2,m3,_⟩:=mS (hs.nodes.keep h.old h.old.size) nJ;obtain⟨bL,oL,Qc,Ge,hL⟩:=Il (hs.leaves.keep h.old h.old.size) hlv;have zZ:(n:Int)<(E.T.length:Int):=by have :=(ai.1 nJ).1;omega
 have xV:(nd.leaf:Int)<(E.Lv.length:Int):=by have :=(ai.1 hlv).1;omega
 have hdec:=λ(X:agb) (hX:aZ w X)=>pO E.A E.rs E.cap E.rs.length f X X.heap.size ((hs.rules.keep h.old h.old.size).keep hX hX.size) (ah _) rfl (by have :=hs.few;omega) h.fl;have hL2:∀i u,(vG (dR f E.rs E.rs.length))[i]?=O u->w.cell? ⟨bL,oL+nd.leaf*16+i,U⟩=O u:=λ i u hu=>hL i u (by rw[hD];simpa using hu);have hne:=UI (dR f E.rs E.rs.length)
 have hsz:(prog.info? 63).map (·.size)=O (vG (dR f E.rs E.rs.length)).size:=by have :=Cb (iK E.rs f);rw[hD] at this;simpa using this
 obtain⟨aak,hDD⟩:∃aak,vG (dR f E.rs E.rs.length)=aak:=⟨_,rfl⟩;rw[hDD] at hL2 hne hsz hdec;obtain⟨k0,k1,k2,k3⟩:=h.cells
 have hfc:∀j u,(iw f)[j]?=O u->w.cell? ⟨E.sb,23+j,U⟩=O u:=λ j u hu=>by
  have hj:j<10:=by have :=(iX.1 hu).1;rw[pM h.fl] at this;exact this
  rw[h.box.cell,Ky j hj h.fl];unfold iw at hu;rwa [dn] at hu
 have MM:=h.box.lt;have IU:=oW h.fl;have HH:=uF h hdec hL2 hsz hfc IU;obtain⟨sb,oV⟩:∃x,E.sb=x:=⟨_,rfl⟩;obtain⟨nT,MK⟩:∃x,E.T.length=x:=⟨_,rfl⟩;obtain⟨nL,Yu⟩:∃x,E.Lv.length=x:=⟨_,rfl⟩;have HSB:=aG oV;rw[oV,hA1,MK] at k1;rw[oV,Qc,Yu] at k2;rw[oV] at k0 MM⊢;rw[MK] at zZ;rw[Yu] at xV;have ha':a=10:=ar;subst ha';clear ha h hz Ui Ol hzl hzv rM KG hW hk hlv hD hL hL2 hsz hdec hfc IU hDD oV MK Yu k3 nJ hm hA1 Qc;go_enter func43,ntmps43;go_upto_region 2 with fail;refine bJ w aV aV ?_
 iterate 15 (go_big_quiet_step (fail))
 go_big_quiet_want
 refine kr _ _ rfl bL (oL+nd.leaf*16) rfl aak _ (λ w9 qh j u hu=>by obtain⟨u9,rfl⟩:=qh;rw[aQ _ _ Ge];exact HH.q3 j u hu) gH rfl HH.q4 ?_;go_simp;go_big_quiet_on
 iterate 7 (go_big_quiet_step (fail))
 go_big_quiet_want
 refine kr _ _ rfl sb 23 rfl (iw f) _ (λ w9 qh j u hu=>by obtain⟨u9,rfl⟩:=qh;rw[aQ _ _ MM,<-HSB.o];exact HH.q5 j u hu) iu rfl HH.t5 ?_;go_simp;go_big_quiet_on
 repeat(go_big_quiet_step (first|(go_at_call 16;exact iL (HH.q2 _ (aT w _)))))
 refine wpQuiet_nil (λ v=>?_);go_wp2_with fail;go_ret;have gU:=HH.q1.below (aT w v);exact⟨rfl,f,m,gU,aw (aT w v),λ _ _=>rfl,ah _,by unfold il;omega⟩
theorem E7.congr{lim:Zn}{a:Nat}{f f':Fc}(h:E7 lim a f)(e:∀i,i<a->eO f' i=eO f i):E7 lim a f':=λ i hi=>by rw[e i hi];exact h i hi
theorem Kw.congr{δ:Type}{lim:Zn}{eE:Fc->δ}{T:List Nd}{Lv:List δ}{a n:Nat}{f f':Fc}(h:Kw lim eE T Lv a f n)(e:∀i,i<a->eO f' i=eO f i):Kw lim eE T Lv a f' n:=
 ⟨h.1,h.2.1,λ g hg hs=>h.2.2 g hg λ i hi=>by rw[hs i hi,e i hi]⟩
theorem vJ{ops:Array Oper}{rest:List Oper}{o:Oper}{a:Act}{Q:lC}{X:agb}{base:Nat}(hgd:o.guard=U)(s x:Operand)(ho:o.op=.call {callee:=.builtin .append,args:=#[s,x],argTypes:=#[131,131]})
 (A:dB)(n c:Nat)(hs:a.eval s=G A n c)(zs:List (Int×Int))(hn:zs.length=n)(hown:cH IQ 133 X base 0 (G A n c) zs)(g:Nat)(hx:a.eval x=G (O ⟨g,0,U⟩) 1 1)(z1 z2:Int)(hg:Bk X g #[I J z1,I J z2] 133)(hz1:fits z1)(hz2:fits z2)
 (h63:zs.length+1<=1000000000)(hbase:base<=X.heap.size)
 (h:∀A' c' w',cH IQ 133 w' base 0 (G A' (n+1) c') (zs++[(z1,z2)])->Only (λ g=>(G A n c).ownBlock=O g) X w'->
  wpList prog ops Q rest (a.put o.dst (G A' (n+1) c')) w'):wpList prog ops Q (o::rest) a X:=by
 subst hn
 refine en (T:=IQ) (base:=base) (B:=0) (e:=133) (v:=G A zs.length c) (qs:=zs) hgd s x _ ho 16 underlying131 aV cj Uw hs hown (O ⟨g,0,U⟩) 1 1 [(z1,z2)] [[I J z1,I J z2]] hx rfl rfl (λ i h1 h2=>by
  obtain rfl:i=0:=by simpa using h1
  exact⟨[I J z1],[I J z2],rfl,⟨rfl,hz1⟩,⟨rfl,hz2⟩⟩) (by have :=gL hg 1;simpa using this) (by unfold maxLen;omega) ar hbase (ak _) ?_
 intro A' c' w' h1 h2 h3 h4;exact h A' c' w' h1 ((Only.refl _ _).grown h3 (λ g e=>.inl e))
theorem Z0(Z:List Zn)(a:Nat):cA Z aP a<=1+2*(Z.length+1):=by unfold cA mA stA;refine bm (B7 _) (bm (qL _ _ _ _ _) ?_);rw[eW];exact ah _
structure Dn(E:Ve)(w:agb)(at_:Nat)(f:Fc)(m C:Nat)(vS:R)(vs:List Int)(j:Nat)(f':Fc)(m':Nat)(X:agb):Prop where
 ok:E.ok f' m' X
 only :Only (λ g=>g=E.sb\/g=E.mb) w X
 same:∀i,i<at_->eO f' i=eO f i
 m1:m<=m'
 m2:m'<=m+j*C
 row:cH dr 3 X w.heap.size 0 vS vs
theorem Ve.node(E:Ve)(hs:E.st)(hsm:E.sb≠E.mb)(k:Nat)(hk:k<10)(ih:E.KE k):E.KE (k+1):=by
 intro zs f n m w AL cL a ha h hz Ui Ol hzl hzv rM KG hm;obtain⟨at_,hat⟩:∃x,9 - k=x:=⟨_,rfl⟩;have e1:10 - (k+1)=at_:=ar;have e2:10 - k=at_+1:=ar;rw[e1] at ha rM KG⊢;have Dd:at_<10:=ar;subst ha;obtain⟨C,hC⟩:∃x,il (cA (bc E.rs) aP) k=x:=⟨_,rfl⟩;obtain⟨cN,Kj⟩:∃x,cA (bc E.rs) aP at_=x:=⟨_,rfl⟩;have iF:il (cA (bc E.rs) aP) (k+1)=2+cN*C:=by rw[<-Kj,<-hC,<-hat];rfl
 rw[iF] at hm⊢;have ih':=ih;unfold Ve.KE at ih';rw[e2,hC] at ih';clear ih;obtain⟨nd,nJ⟩:∃nd,E.T[n]?=O nd:=⟨_,af KG.1⟩;obtain⟨g0,EK⟩:=h.map;have ug:=EK.lt;have oV:=h.box.lt;have hW0:=h.old.size;have hfa:fits (at_:Int):=by unfold fits;omega
 have hfn:fits (n:Int):=by have :=hs.tab.le;have :=KG.1;unfold fits;omega
 have hkey:=λ(X:agb) (hX:aZ w X)=>Yt (at_:Int) (n:Int) AL cL zs X (hz.keep hX hX.size) hzl Ol hfa hfn ((h.tab hs).below hX)
 have hlen:(EM (((at_:Int),(n:Int))::zs)).length<=5000000:=by
  have :=Oy (l:=((at_:Int),(n:Int))::zs) (λ x hx=>by
   rcases aR.1 hx with rfl|hx
   · exact⟨hfa,hfn⟩
   · exact Oz hz x hx)
  rw[bD] at this;omega
 obtain⟨S,hS⟩:∃S:BA0,(⟨(EM (((at_:Int),(n:Int))::zs)).toArray⟩:BA0)=S:=⟨_,rfl⟩;have hSl:S.size<=maxLen:=by rw[<-hS,tY];unfold maxLen;omega
 rw[hS] at hkey;clear hS hlen;have c33:=h.cells.2.2.2;have HH:=ah4 h hz Ui Ol hzv rM KG hm ih' nJ hkey hSl EK Kj ug;obtain⟨sb,BO⟩:∃x,E.sb=x:=⟨_,rfl⟩;obtain⟨mb,abQ⟩:∃x,E.mb=x:=⟨_,rfl⟩;have HS:=dt BO abQ;have Z1:=aG hs;have Zp:=aG hsm;rw[BO,abQ] at c33;rw[BO] at oV⊢;have Z3:¬(at_:Int)=10:=ar;have ajw:(at_:Int)<10:=ar;clear h hz Ui Ol hzv rM KG hm ih' nJ hkey hSl EK hs hsm BO abQ hC Kj iF e1 e2 hfa hfn ug;go_enter func43,ntmps43;go_upto_region 4 with(go_at_call 92;refine Calls.mono (HH.q11 _ dE) ?_;rintro e w2 ⟨rfl,hb⟩;have HB:=aG hb;clear hb);have akw:sb<w2.heap.size:=by have :=HB.o.size;omega
 have akx:=(HB.o.cell (p:=⟨sb,33,U⟩) oV).trans c33;obtain⟨q,hq⟩:∃q,(g0 S).getD false=q:=⟨_,rfl⟩;have HQ:=aG hq;go_upto_if 54 with(at_lookup;refine mg rfl _ _ _ rfl 9 4 lV mE dW aV rfl (by rw[<-HS.t1];exact HH.q13.below HB.o) _ S rfl (Tz HH.q12) ?_;rw[HQ.o]);clear hq;cases q with
 |true=>
  as_aux_lemma=>
  go_wp2_with fail;go_ret;exact⟨rfl,f,m,HH.q1.below HB.o,aw HB.o,λ _ _=>rfl,ah _,Nat.le_add_right _ _⟩
 |false=>
 have TN:=HH.q1.below HB.o;have hz2:=HH.q2.keep HB.o HB.o.size;have H2:=dt TN hz2;clear TN hz2 c33 akx;go_upto_region 7 with(go_at_call 93;have hc:=MN E Z1.o f m at_ n nd AL cL zs _ H2.q1 HH.Ci Dd H2.t1 HH.q5 hzl;rw[HS.q1] at hc;refine hc.mono ?_;clear hc;rintro e w3 ⟨A3,c3,vs,rfl,k1,k2,k3,k4⟩;have H3:=iM k1 k2 k3 k4;clear k1 k2 k3 k4)
 have Ga:vs.length<=300000:=by have h1:=H3.t3;have h2:=Z0 (bc E.rs) at_;have h3:=Z1.o.wL;omega
 have hD:Dn E w at_ f m C (G A3 vs.length c3) vs 0 f m w3:=
  ⟨H2.q1.below H3.q2,aw (aq HB.o H3.q2),λ _ _=>rfl,ah _,ar,H3.q1.weaken HB.o.size⟩
 have HV:=fH hD H3.q3 H3.t3;clear hD H3 H2 HB akw;clear w2;go_wp2_with fail;go_loopw [61] (λ i wr=>∃(j:Nat) (f':Fc) (m':Nat),j<=vs.length/\i=I J j/\Dn E w at_ f m C (G A3 vs.length c3) vs j f' m' wr) (λ i _=>vs.length - (intOf i).toNat)
 case atStart=>exact⟨0,f,m,ak _,rfl,HV.q1⟩
 case round=>
  have Re:=aG HV.t1;clear HV;clear w3;obtain⟨j,f',m',hj,rfl,hN⟩:=hrel;generalize wr=wA at *;by_cases hlt:j<vs.length
  · as_aux_lemma=>
    have rE:(j:Int)<(vs.length:Int):=ar;obtain⟨b3,o3,v,rfl,hb3,_,Hv,dv,fv1,fv2⟩:=(hN.row.elems (ak _) (ah _)).fC hlt;have df:=hN.ok.fact Dd;have ff:=hN.ok.box.free (23+at_);have lf:=hN.ok.box.lt;have hvm:=Re.q1 v (az Hv.o);have gU:=hN.ok.Qe Z1.o Zp.o Dd (v:=v) ⟨fv1,fv2⟩;have hrow:cH dr 3 (wA.setCell ⟨E.sb,23+at_,U⟩ (I J v)) w.heap.size 0 (G (O ⟨b3,o3,U⟩) vs.length c3) vs:=hN.row.only ((Only.refl (λ g=>g=E.sb) wA).aS (p:=⟨E.sb,23+at_,U⟩) (.inl rfl) _) (λ _ _=>ak _) (ak _) (λ g hg e=>by have :=(hN.row.lt g hg).1;have :=HS.q1;omega);have sW:Only (λ g=>g=E.sb\/g=E.mb) w (wA.setCell ⟨sb,23+at_,U⟩ (I J v)):=hN.only.aS (p:=⟨sb,23+at_,U⟩) (.inl (.inl HS.q1.symm)) _;rw[HS.q1] at df ff lf gU hrow;have HN:=yK gU hrow sW hN.same hN.m1 hN.m2 hvm hN.ok.fl;have HJ:=aG hlt;clear hN Hv hvm gU hrow sW;go_upto_region 10 with fail;refine forget (λ V=>E.ok (f'.set at_ v) m' V/\cH dr 3 V w.heap.size 0 (G (O ⟨b3,o3,U⟩) vs.length c3) vs/\Only (λ g=>g=E.sb\/g=E.mb) w V) ⟨HN.q1,HN.q2,HN.q3⟩ ?_;have HM:=aG HN.t3;clear HN df ff lf dv hb3;rintro V ⟨gU,hrow,sW⟩;have hzV:=HH.q2.Oj Im sW (λ g off e=>by have :=HH.q3 g off e;rintro(h|h)<;>omega);have HV:=iM gU hrow sW hzV;clear gU hrow sW hzV;go_wp2_with fail;go_loopw [12,73] (λ rs i wr=>∃(i2:Nat) (A:dB) (c:Nat) (rest:List (Int×Int)),i2<=zs.length/\i=I J i2/\rs=G A rest.length c/\cH IQ 133 wr V.heap.size 0 (G A rest.length c) rest/\aZ V wr/\(∀l∈rest,l∈zs)/\rest.length<=i2) (λ _ i _=>zs.length - (intOf i).toNat)
    case atStart=>exact⟨0,U,0,[],ak _,rfl,rfl,cH.nil,aA _ _,(λ l hl=>absurd hl bY),ah _⟩
    case round=>
     obtain⟨i2,A4,c4,rest,Jg,rfl,rfl,hown,bI,Hb,uR⟩:=hrel;generalize wr=wB at *;by_cases Ij:i2<zs.length
     · as_aux_lemma=>
       have hil:(i2:Int)<(zs.length:Int):=ar;obtain⟨bL,oL,x,cs,rfl,Ge,_,hx,ZU,⟨c1,c2,rfl,⟨rfl,fa1,fa2⟩,⟨rfl,fb1,Uu⟩⟩,hc⟩:=(HV.t3.keep bI bI.size).pick Ij;obtain⟨i,kz,r,z,hxe,hri,MO⟩:=HH.q5 x ZU;have e0:wB.cell? ⟨bL,oL+i2*2,U⟩=O (I J x.1):=hc 0 _ rfl;have e1:wB.cell? ⟨bL,oL+i2*2+1,U⟩=O (I J x.2):=hc 1 _ rfl;subst hxe;have HQ:=yJ hown bI Hb uR hri MO ZU;have Wi:=aG Ij;clear hown bI Hb uR hri MO hc hx ZU;go_upto_region 14 with fail;obtain⟨yb,yL⟩:∃y,wB.heap.size=y:=⟨_,rfl⟩
       have hY:aZ V (wB.alloc (D #[I J (i:Nat),I J (kz:Nat)] 133))/\cH IQ 133 (wB.alloc (D #[I J (i:Nat),I J (kz:Nat)] 133)) V.heap.size 0 (G A4 rest.length c4) rest/\Bk (wB.alloc (D #[I J (i:Nat),I J (kz:Nat)] 133)) yb #[I J (i:Nat),I J (kz:Nat)] 133:=
        ⟨ay HQ.q2 _,HQ.q1.below (aj _ _) (ak _),au _ _ _ _ yL⟩
       rw[yL];refine forget (λ Y=>aZ V Y/\cH IQ 133 Y V.heap.size 0 (G A4 rest.length c4) rest/\Bk Y yb #[I J (i:Nat),I J (kz:Nat)] 133) hY ?_;have D8:=aG HQ.t2;clear hY e0 e1 yL HQ Ge;rintro Y ⟨bI,hown,yL⟩;have UL:=HV.q1.below bI;obtain⟨bR,oR,kd,nm,AZ,zz,zc,num,rn,rd,sn,sd,hAR,hbR,Hr,-,-,r2,-,-,-,-,-,-,-,-,hZ,-,-⟩:=kA (Z1.o.rules.keep UL.old UL.old.size) (k:=i) (ai.1 D8.q3).1;have ZN:r=(kd,nm,zz,num,(rn,rd),(sn,sd)):=aO (D8.q3.symm.trans Hr.o);have MO:zz[kz]?=O z:=by have :=D8.q4;rw[ZN] at this;exact this
       obtain⟨bZ,oZ,z',rfl,Qi,Hz,uo,FM⟩:=pz hZ (ai.1 MO).1;have hzz:z'=z:=aO (Hz.o.symm.trans MO);subst hzz;have d1:Y.cell? ⟨bZ,oZ+kz*20+at_*2,U⟩=O (I J (atR z' at_).1):=FM.o _ _ (iC (by rw[uo];omega)).1;have d2:Y.cell? ⟨bZ,oZ+kz*20+at_*2+1,U⟩=O (I J (atR z' at_).2):=by rw[fu];exact FM.o _ _ (iC (by rw[uo];omega)).2
       obtain⟨r1,hr1⟩:∃x,(atR z' at_).1=x:=⟨_,rfl⟩;obtain⟨r3,hr3⟩:∃x,(atR z' at_).2=x:=⟨_,rfl⟩;rw[hr1] at d1;rw[hr3] at d2;have ako:(kz:Int)<(zz.length:Int):=by have :=(ai.1 MO).1;omega
       have hiI:(i:Int)<(E.rs.length:Int):=by have :=(ai.1 D8.q3).1;omega
       have c0:=UL.cells.1;rw[hAR,HS.q1] at c0;have MM:sb<Y.heap.size:=by rw[<-HS.q1];exact UL.box.lt
       obtain⟨nR,hnR⟩:∃x,E.rs.length=x:=⟨_,rfl⟩;obtain⟨cR,hcR⟩:∃x,E.cap=x:=⟨_,rfl⟩;rw[hnR,hcR] at c0;rw[hnR] at hiI;obtain⟨qy,ly⟩:=yL.cl0;have HY:=fH bI hown yL;clear bI hown yL UL Hr ZN MO Hz uo FM hr1 hr3 hnR hcR hZ hAR;refine ed (λ w'=>∃u,w'=ext Y u) [([0,1,2,3,4,5,6,7,8,9,10,11,12,13,14,15],[16])] 17 aV aV ⟨_,(dV ((aA Y.heap.size Y).drew)).choose_spec.symm⟩ ?_;(refine bT (λ K9 h9=>?_);simp only[aH,aU,aW,aa,ae];(repeat(go_big_quiet_step (fail)));refine wpQuiet_nil (h9 _ ?_);clear h9 K9)
       (refine cM (λ K9 h9=>?_);simp only[aW,aa,ae])
       go_wp2_with fail;refine h9 _ _ ⟨_,(dV (ay ((aA Y.heap.size Y).drew) _)).choose_spec.symm⟩ ?_;clear h9 K9;refine bU (dF ?_);simp only[aW,aa,ae];go_upto_region 15 with fail;obtain⟨rb,kS⟩:∃y,Y.heap.size=y:=⟨_,rfl⟩;rw[kS]
       have hY:aZ V ((Y.alloc (D #[I J r1,I J r3] 88)).drew)/\cH IQ 133 ((Y.alloc (D #[I J r1,I J r3] 88)).drew) V.heap.size 0 (G A4 rest.length c4) rest/\Bk ((Y.alloc (D #[I J r1,I J r3] 88)).drew) yb #[I J (i:Nat),I J (kz:Nat)] 133/\Bk ((Y.alloc (D #[I J r1,I J r3] 88)).drew) rb #[I J r1,I J r3] 88:=
        ⟨(ay HY.q1 _).drew,HY.q2.below ((aj _ _).drew) (ak _),(HY.t2.alloc _).drew,(au _ _ _ _ kS).drew⟩
       refine forget (λ Y=>aZ V Y/\cH IQ 133 Y V.heap.size 0 (G A4 rest.length c4) rest/\Bk Y yb #[I J (i:Nat),I J (kz:Nat)] 133/\Bk Y rb #[I J r1,I J r3] 88) hY ?_;clear hY HY qy ly c0 d1 d2 MM kS r2 hbR Qi;clear Y;rintro Y ⟨bI,hown,yL,kS⟩;obtain⟨qy,ly⟩:=yL.cl0;obtain⟨qr,lr⟩:=kS.cl0;have HY:=dt bI hown;clear bI hown yL kS;have uR:=D8.q2;by_cases p1:r1<=v
       · by_cases p2:v<=r3
         · as_aux_lemma=>
           go_wp2_with (at_builtin;go_loud (refine vJ rfl _ _ rfl A4 rest.length c4 rfl rest rfl (HY.t1.below (aj _ _) (ak _)) _ rfl (i:Int) (kz:Int) (au _ _ _ _ rfl) ⟨fa1,fa2⟩ ⟨fb1,Uu⟩ ar (by have :=HY.q1.size;simp;omega) ?_);intro A9 c9 w9 iO kH;have H9:=dt iO kH;clear iO kH);go_roundw
           case rel=>
            refine⟨i2+1,A9,c9,rest++[((i:Int),(kz:Int))],Wi.o,gC,bY,by simpa using H9.q1,(ay HY.q1 _).trans (H9.t1.aK (λ g hg=>(HY.t1.lt g hg).1) (by have :=HY.q1.size;simp;omega)),(λ l hl=>?_),by simp;omega⟩;rcases bV.1 hl with hl|hl
            · exact D8.q1 l hl
            · rw[aN.1 hl];exact D8.t4
           case measure=>have :=Wi.o;simp[intOf];omega
         · as_aux_lemma=>
           go_wp2_with fail;go_roundw
           case rel=>exact⟨i2+1,A4,c4,rest,Wi.o,gC,rfl,HY.t1,HY.q1,D8.q1,ar⟩
           case measure=>have :=Wi.o;simp[intOf];omega
       · as_aux_lemma=>
         go_wp2_with fail;go_roundw
         case rel=>exact⟨i2+1,A4,c4,rest,Wi.o,gC,rfl,HY.t1,HY.q1,D8.q1,ar⟩
         case measure=>have :=Wi.o;simp[intOf];omega
     · as_aux_lemma=>
       obtain rfl:i2=zs.length:=ar;have gU:E.ok (f'.set at_ v) m' wB:=HV.q1.below bI;have wY:at_<f'.length:=by rw[HM.t4];exact Dd
       have afN:=Ce Dd HM.q4;have KH:E7 aP (at_+1) (f'.set at_ v):=(HH.q6.congr HM.q1).set wY afN;have Z4:Kw aP (iK E.rs) E.T E.Lv at_ f' n:=HH.q7.congr HM.q1;obtain⟨q,hq⟩:∃q,(decide (0<nd.kids.length)&&decide ((nd.attr:Int)=(at_:Int)))=q:=⟨_,rfl⟩;have lY:=Gl E Z1.o (f'.set at_ v) m' n nd (at_:Int) wB gU HH.Ci;rw[hq,HS.q1] at lY;have FH:Below w.heap.size wB wB:=aA _ _;have HL:=Wo gU KH Z4 wY hq lY hown bI Hb uR;clear gU wY afN KH Z4 hq lY FH hown bI Hb uR;go_upto_if 112 with(go_at_call 94;refine HL.q6.mono ?_;rintro e w4 ⟨rfl,hb⟩;have HB:=aG hb;clear hb);go_cut [16] (λ t X'=>∃n':Nat,t=I J (n':Nat)/\Kw aP (iK E.rs) E.T E.Lv (at_+1) (f'.set at_ v) n'/\aZ wB X')
       case first =>
        cases q with
        |false=>
         as_aux_lemma=>
         have hsk:Kw aP (iK E.rs) E.T E.Lv (at_+1) (f'.set at_ v) n:=HL.q3.skip HL.q4 v (λ nd' WS qq e=>by have h1:=aO (HH.Ci.symm.trans WS);subst h1;have h2:=HL.q5;have h3:0<nd.kids.length:=iY.2 qq;rw[decide_eq_true h3,Bool.true_and,decide_eq_false_iff_not] at h2;exact h2 ar)
         have HK:=aG hsk;clear hsk;go_wp2_with fail;go_meet;exact⟨n,rfl,HK.o,HB.o⟩
        |true=>
         as_aux_lemma=>
         obtain⟨Js,hk2⟩:nd.kids≠ []/\nd.attr=at_:=by have h2:=HL.q5;rw[aD,decide_eq_true_eq,decide_eq_true_eq] at h2;exact⟨iY.1 h2.1,ar⟩
         obtain⟨kd,vB,hka⟩:=HL.q3.kid Z1.o.tab HL.q4 v HH.Ci Js hk2;have ey:=Yq E Z1.o (f'.set at_ v) m' n kd nd v w4 (HL.q1.below HB.o) HH.Ci vB ⟨fv1,fv2⟩;rw[HS.q1] at ey;have HK:=dt hka ey;clear Js hk2 vB hka ey;go_wp2_with (go_at_call 95;refine HK.t1.mono ?_;rintro e w5 ⟨rfl,hb⟩;have HB5:=aG hb;clear hb);go_meet;exact⟨kd,rfl,HK.q1,aq HB.o HB5.o⟩
       case rest=>
       clear HB;clear w4;obtain⟨n',hv',Z5,hb'⟩:=hcut;subst hv';have Yv:(j+1)*C<=cN*C:=gh _ (by have h1:=Re.t1;have h2:=HH.q14;have h3:=HJ.o;omega);have hC2:(j+1)*C=j*C+C:=Nat.succ_mul _ _;have iF:m'+C<=10995116277760:=by have h1:=HM.q3;have h2:=HH.q8;omega
       have u6:rest.length<=c4/\c4<=maxLen:=by
        obtain⟨A',c',e4,h1,h2⟩:=HL.q7.form;injection e4 with e41 e42 Yc
        subst Yc;exact⟨h1,h2⟩
       have hown':=HL.q7.below hb' (ak _)
       have ey:=HH.q9 rest (f'.set at_ v) n' m' wc A4 c4 ((at_:Int)+1) ar (HL.q1.below hb') (hown'.elems (ak _) (ah _)) (λ g off e=>by have h1:=(hown'.lt g (by rw[e];rfl)).1;have h2:=HV.q3.size;have h3:=HS.o;have h4:=HH.t14;omega) u6 (by have :=HL.t9;omega) (λ l hl=>HH.q5 l (HL.q9 l hl)) HL.q2 Z5 iF
       rw[HS.q1] at ey;have HC:=iM ey Yv hC2 hb';clear ey Yv hC2 iF u6 hown' Z5 hb';go_upto_if 122 with(go_at_call 43;refine HC.q1.mono ?_;rintro e w6 ⟨rfl,f2,m2,k1,k2,k3,k4,k5⟩;have H6:=lQ k1 k2 k3 k4 k5;clear k1 k2 k3 k4 k5)
       have hD:Dn E w at_ f m C (G (O ⟨b3,o3,U⟩) vs.length c3) vs (j+1) f2 m2 w6:=by
        have hVw:=HV.q3.size;have h1:Only (λ g=>g=E.sb\/g=E.mb) V w6:=((aw (aq HL.q8 HC.t3)).trans (by simpa [HS.q1] using H6.q2));have hm4:=HH.t14;refine⟨H6.q1,HV.q3.trans h1,λ i hi=>?_,by have :=HM.q2;have :=H6.q4;omega,by have h1:=HM.q3;have h2:=H6.t4;have h3:=HC.q3;omega,HV.q2.only h1 (λ _ _=>ak _) (ak _) (λ g hg hq=>?_)⟩
        · rw[H6.q3 i ar,qM HL.q4,if_neg ar]
          exact HM.q1 i hi
        · have h2:=(HV.q2.lt g hg).1
          have h3:=HS.o;omega
       have HD:=aG hD;clear hD;go_wp2_with fail;go_roundw
       case rel=>exact⟨j+1,f2,m2,HJ.o,gC,HD.o⟩
       case measure=>have :=HJ.o;simp[intOf];omega
  · as_aux_lemma=>
    obtain rfl:j=vs.length:=ar;have HN:=aG hN;have c33:=hN.ok.cells.2.2.2;have MM:=hN.ok.box.lt;rw[HS.q1,HS.t1] at c33;rw[HS.q1] at MM;obtain⟨g1,hg1⟩:=hN.ok.map;have HG:=aG hg1;have Yv:vs.length*C<=cN*C:=gh _ (by have h1:=Re.t1;have h2:=HH.q14;omega);have qf:m'<=m+cN*C/\m'<=10995116277760:=by have h1:=HN.o.m2;have h2:=HH.q8;omega
    have HM:=aG qf;clear hN hg1 Yv qf;go_wp2_with (at_mapUpdate;refine lT (m:=m') (f:=g1) rfl _ _ _ _ rfl 9 4 lV mE dW Dt (by have :=HM.t1;unfold maxLen;omega) rfl (by rw[<-HS.t1];exact HG.o) _ S rfl (Tz HH.q12) true gC ?_;intro w7 EX py;have H7:=dt EX py;clear EX py);go_ret;have py:Only (λ g=>g=E.mb) wA w7:=by rw[HS.t1];exact H7.t1
    refine⟨rfl,f',_,⟨HN.o.ok.old.trans (py.aK (λ g hg=>by rw[hg];exact Z1.o.s2) HN.o.ok.old.size),HN.o.ok.box.only py Zp.o,⟨_,by rw[HS.t1];exact H7.q1⟩,HN.o.ok.fl,HN.o.ok.ff⟩,by have h:=HN.o.only.trans (py.mono (T:=λ g=>g=E.sb\/g=E.mb) λ g hg=>.inr hg);rw[HS.q1] at h;exact h,HN.o.same,?_,?_⟩
    · have :=HN.o.m1
      split<;>omega
    · have :=HM.q1
      split<;>omega
theorem Ve.all(E:Ve)(hs:E.st)(hsm:E.sb≠E.mb):∀k,k<=10->E.KE k
 |0,_=>E.leaf hs
 |k+1,h=>E.node hs hsm k ar (Ve.all E hs hsm k ar)
theorem KI(A:dB)(n cap:Nat)(A1:dB)(nT c1:Nat)(A2:dB)(nL c2:Nat)(mb:Nat):Ow A n cap A1 nT c1 A2 nL c2 f0 mb=#[G A n cap,G A1 nT c1,G A2 nL c2,
 I J 0,I J 1000000000,I J 0,I J 150,I J 0,I J 1,I J 0,I J 19,I J 0,I J 7,I J 0,I J 319,I J 0,I J 3,I J 0,I J 3,I J 1,I J 12,I J 0,I J 100,
 I J 0,I J 0,I J 0,I J 0,I J 0,I J 0,I J 0,I J 0,I J 0,I J 0,.map (O mb)]:=rfl
theorem afP:jY aP=#[I J 0,I J 1000000000,I J 0,I J 150,I J 0,I J 1,I J 0,I J 19,I J 0,I J 7,I J 0,I J 319,I J 0,I J 3,I J 0,I J 3,I J 1,I J 12,I J 0,I J 100]:=rfl
theorem Eb(A A1 A2:dB)(cap c1 c2:Nat)(rs:List Rl)(T:List Nd)(Lv:List Dk)(w:agb)(h:ic se w A rs)(hv:jg rs=true)(hT:mU (bc rs) aP (iK rs) T Lv)(h1:ic vH w A1 (T.map pA))(h2:ic Hm w A2 Lv)(ht:nu w)(iF:il (cA (bc rs) aP) 10<=1099511627776):
 Calls prog 14 #[.agg #[G A rs.length cap],.agg #[G A1 T.length c1,G A2 Lv.length c2]] w (jL (.tuple #[.agg #[I J 0,I J 0,I J 0,I J 0,I J 0,I J 0,I J 0,I J 0,I J 0,I J 0],.bool false]) w):=by
 have hg:=sV hv;have hz:=nE hv;have HH:=Ru h hv hT h1 h2 ht iF hg hz;have uR:=hg.1;clear h hv hT h1 h2 ht iF hg hz;have BM:∀X,Calls prog 23 #[] X (jL (.agg (jY aP)) X):=nD;rw[afP] at BM;have HL:=aG BM;clear BM;go_enter func14,ntmps14;go_upto_region 1 with fail
 have hY:aZ w (((w.alloc (D #[G A rs.length cap] 38)).alloc (D #[G A1 T.length c1,G A2 Lv.length c2] 56)).alloc (D (iw f0) 31))/\Bk (((w.alloc (D #[G A rs.length cap] 38)).alloc (D #[G A1 T.length c1,G A2 Lv.length c2] 56)).alloc (D (iw f0) 31)) w.heap.size #[G A rs.length cap] 38/\Bk (((w.alloc (D #[G A rs.length cap] 38)).alloc (D #[G A1 T.length c1,G A2 Lv.length c2] 56)).alloc (D (iw f0) 31)) (w.heap.size+1) #[G A1 T.length c1,G A2 Lv.length c2] 56/\Bk (((w.alloc (D #[G A rs.length cap] 38)).alloc (D #[G A1 T.length c1,G A2 Lv.length c2] 56)).alloc (D (iw f0) 31)) (w.heap.size+1+1) (iw f0) 31:=
  ⟨dE,((au _ _ _ _ rfl).alloc _).alloc _,(au _ _ _ _ bY).alloc _,au _ _ _ _ bY⟩
 refine forget (λ X=>aZ w X/\Bk X w.heap.size #[G A rs.length cap] 38/\Bk X (w.heap.size+1) #[G A1 T.length c1,G A2 Lv.length c2] 56/\Bk X (w.heap.size+1+1) (iw f0) 31) hY ?_;clear hY;rintro X ⟨k1,k2,k3,k4⟩;obtain⟨q1,l1⟩:=k2.cl0;obtain⟨q2,l2⟩:=k3.cl0;have HX:=iM k1 k2 k3 k4;clear k1 k2 k3 k4;have hE:=λ(Y:agb) (hY:aZ X Y)=>HH.q1.keep (aq HX.q1 hY) (aq HX.q1 hY).size;have Ga:=λ(Y:agb) (hY:aZ X Y)=>uT A rs cap rs.length Y Y.heap.size (hE Y hY) (ah _) rfl ar;have hvt:=λ(Y:agb) (hY:aZ X Y)=>D4 A1 A2 c1 c2 T Lv Y HH.q3 (HH.q4.keep (aq HX.q1 hY) (aq HX.q1 hY).size) (HH.q5.keep (aq HX.q1 hY) (aq HX.q1 hY).size) (HH.q6.below (aq HX.q1 hY)) (by have :=HH.t10;omega);rw[HH.q2] at Ga;have HC:=dt Ga hvt;clear hE Ga hvt
 go_upto_if 18 with(first
  |(go_at_call 10;refine(HC.q1 _ (aA _ _)).mono ?_;rintro e w2 ⟨rfl,hb⟩;have q1':=λ i=>(hb.cell (p:=⟨w.heap.size,i,U⟩) l1).trans (q1 i);have q2':=λ i=>(hb.cell (p:=⟨w.heap.size+1,i,U⟩) l2).trans (q2 i);have l1':=dI l1 hb.size;have l2':=dI l2 hb.size;have HB:=aG hb;clear hb)
  |(go_at_call 42;refine(HC.t1 _ HB.o).mono ?_;rintro e w3 ⟨rfl,hb⟩;have Xr:=aG (aq HB.o hb);clear hb))
 have hb3:aZ X w3:=Xr.o
 have hY:aZ w w3/\Bk w3 w.heap.size #[G A rs.length cap] 38/\Bk w3 (w.heap.size+1) #[G A1 T.length c1,G A2 Lv.length c2] 56/\Bk w3 (w.heap.size+1+1) (iw f0) 31:=
  ⟨aq HX.q1 hb3,HX.q2.below hb3,HX.q3.below hb3,HX.t3.below hb3⟩
 refine forget (λ X=>aZ w X/\Bk X w.heap.size #[G A rs.length cap] 38/\Bk X (w.heap.size+1) #[G A1 T.length c1,G A2 Lv.length c2] 56/\Bk X (w.heap.size+1+1) (iw f0) 31) hY ?_;clear hY HB Xr HC hb3 q1' q2' l1' l2' q1 l1 q2 l2 HX;clear w3 w2;rintro Y ⟨k1,k2,k3,k4⟩;obtain⟨q1,l1⟩:=k2.cl0;obtain⟨q2,l2⟩:=k3.cl0;have HX:=iM k1 k2 k3 k4;clear k1 k2 k3 k4;go_upto_region 3 with fail;go_cut [6] (λ p X'=>∃sb mb,p=M (O ⟨sb,0,U⟩)/\Bk X' sb (Ow A rs.length cap A1 T.length c1 A2 Lv.length c2 f0 mb) 130/\iI ql prog 9 4 X' mb 0 (λ _=>U)/\aZ Y X'/\Y.heap.size<=sb/\Y.heap.size<=mb)
 case first =>
  have qf:= @run_makeMap prog;have HD:=aG ((aA Y.heap.size Y).drew);have AG:∀X',aZ Y X'->∃u,X'=ext Y u:=λ X' h=>(let⟨u,e⟩:=dV h;⟨u,e.symm⟩);have kK:=aG AG;clear AG;refine ui (S:=λ w'=>∃u,w'=ext Y u) [([0,1],[])] 2 3 [([4],[5])] 6 aV aV (kK.o _ HD.o) ?_;refine bT (λ K9 h9=>?_);simp only[aH,aU,aW,aa,ae];repeat(go_big_quiet_step (fail))
  refine wpQuiet_nil (h9 _ ?_);clear h9 K9;refine bU (dF ⟨?_,?_⟩)
  · refine jM (λ K9 h9=>?_)
    simp only[aW,aa,ae];go_wp2_with (go_at_call 23;refine(HL.o _).mono ?_;rintro e w5 ⟨rfl,mN⟩);have H5:=aG (aq HD.o mN);refine h9 _ _ (kK.o _ H5.o) ?_;clear h9 K9 mN;refine jM (λ K9 h9=>?_);simp only[aW,aa,ae];go_wp2_with fail;refine h9 _ _ (kK.o _ (ay H5.o _)) ?_;clear h9 K9;refine bT (λ K9 h9=>?_);simp only[aH,aU,aW,aa,ae];repeat(go_big_quiet_step (fail))
    refine wpQuiet_nil (h9 _ ?_);clear h9 K9;(refine cM (λ K9 h9=>?_);simp only[aW,aa,ae])
    go_wp2_with fail;refine h9 _ _ (kK.o _ (ay (ay H5.o _) _)) ?_;clear h9 K9;refine bU (dF ?_);simp only[aW,aa,ae];go_wp2_with fail;go_meet;refine⟨w5.heap.size+1,w5.heap.size,bY,?_,?_,?_,by have :=H5.o.size;omega,H5.o.size⟩
    · rw[KI]
      exact au _ _ _ _ bY
    · exact(iI.new ql prog 9 4 w5).below (aj _ _)
    · exact ay (ay H5.o _) _
  · refine jM (λ K9 h9=>?_)
    simp only[aW,aa,ae];go_wp2_with fail;refine h9 _ _ (kK.o _ (ay HD.o _)) ?_;clear h9 K9;refine jM (λ K9 h9=>?_);simp only[aW,aa,ae];go_wp2_with (go_at_call 23;refine(HL.o _).mono ?_;rintro e w5 ⟨rfl,mN⟩);have hmz:iI ql prog 9 4 w5 Y.heap.size 0 (λ _=>U):=(iI.new ql prog 9 4 Y.drew).below mN;have H5:=dt (aq (ay HD.o _) mN) hmz;refine h9 _ _ (kK.o _ H5.q1) ?_;clear h9 K9 mN hmz;refine bT (λ K9 h9=>?_);simp only[aH,aU,aW,aa,ae];repeat(go_big_quiet_step (fail))
    refine wpQuiet_nil (h9 _ ?_);clear h9 K9;(refine cM (λ K9 h9=>?_);simp only[aW,aa,ae])
    go_wp2_with fail;refine h9 _ _ (kK.o _ (ay H5.q1 _)) ?_;clear h9 K9;refine bU (dF ?_);simp only[aW,aa,ae];go_wp2_with fail;go_meet;refine⟨w5.heap.size,Y.heap.size,bY,?_,?_,?_,H5.q1.size,ah _⟩
    · rw[KI]
      exact au _ _ _ _ rfl
    · exact H5.t1.below (aj _ _)
    · exact ay H5.q1 _
 case rest=>
 obtain⟨sb,mb,hv,oV,EK,hb,hs1,hs2⟩:=hcut;subst hv
 have hne:sb≠mb:=λ e=>by subst e;obtain⟨aak,⟨es,clock,hh,_⟩,_⟩:=EK;have :=aO (hh.symm.trans oV);cases this
 have q1':=λ i=>(hb.cell (p:=⟨w.heap.size,i,U⟩) l1).trans (q1 i);have l1':=dI l1 hb.size;have bI:aZ w wc:=aq HX.q1 hb;have HZ:=Ru bI oV EK hne (HX.q2.below hb) (HX.t3.below hb) hs1 hs2 HX.t3.lt;clear bI oV EK hne hb hs1 hs2 q1 l1 q2 l2 HX;go_wp2_with fail;go_loopw [7,29] (λ sl i wr=>∃(j:Nat) (A5:dB) (c5:Nat) (l:List (Int×Int)),j<=rs.length/\i=I J j/\sl=G A5 l.length c5/\cH IQ 133 wr wc.heap.size 0 (G A5 l.length c5) l/\aZ wc wr/\(∀x∈l,Yr rs x)/\l.length<=(bc (rs.take j)).length) (λ _ i _=>rs.length - (intOf i).toNat)
 case atStart=>exact⟨0,U,0,[],ak _,rfl,rfl,cH.nil,aA _ _,(λ x hx=>absurd hx bY),ak _⟩
 case round=>
  obtain⟨j,A5,c5,l,hj,rfl,rfl,hown,bI,gU,xV⟩:=hrel;generalize wr=wA at *;by_cases hlt:j<rs.length
  · as_aux_lemma=>
    have rE:(j:Int)<(rs.length:Int):=ar;have UM:=aq HZ.q1 bI;obtain⟨b,off,kd,nm,AZ,zs,zc,num,rn,rd,sn,sd,rfl,pZ,Hx,e0,e1,e2,e3,e4,e5,e6,e7,Je,hz1,hz2,Yl,f1,f2⟩:=kA (HH.q1.keep UM UM.size) hlt;have hst:=uB Hx.o;have hle:=zL rs (j+1)
    have Up:l.length+zs.length<=(bc (rs.take (j+1))).length/\l.length+zs.length<=40000:=by have h1:=congrArg agh hst;rw[ax] at h1;have h2:zs.length=((kd,nm,zs,num,(rn,rd),(sn,sd)):Rl).2.2.1.length:=rfl;have :=HH.t10;omega
    have HA:=lQ hown bI gU Hx.o Up;have HJ:=aG hlt;have arz:zs.length<=40000:=ar;clear hown bI gU hst hle Up UM Hx Yl Je hz1 hz2 f1 f2 xV;go_wp2_with fail;go_loopw [7,37] (λ sl i wr=>∃(k:Nat) (A6:dB) (c6:Nat) (l6:List (Int×Int)),k<=zs.length/\i=I J k/\sl=G A6 l6.length c6/\cH IQ 133 wr wc.heap.size 0 (G A6 l6.length c6) l6/\aZ wc wr/\(∀x∈l6,Yr rs x)/\l6.length<=l.length+k) (λ _ i _=>zs.length - (intOf i).toNat)
    case atStart=>exact⟨0,A5,c5,l,ak _,rfl,rfl,HA.q1.below dE (ak _),(aq HA.q2 dE),HA.q3,ah _⟩
    case round=>
     clear e0 e1 e2 e3 e4 e5 e6 e7 pZ;obtain⟨k,A6,c6,l6,hk,rfl,rfl,hown,bI,gU,xV⟩:=hrel;generalize wr=wB at *;by_cases ME:k<zs.length
     · as_aux_lemma=>
       have kq:(k:Int)<(zs.length:Int):=ar;have HB:=iM hown bI gU xV;have HK:=aG ME;clear hown bI gU xV;go_wp2_with (at_builtin;go_loud (refine vJ rfl _ _ rfl A6 l6.length c6 rfl l6 rfl (HB.q1.below (aj _ _) (ak _)) _ rfl (j:Int) (k:Int) (au _ _ _ _ rfl) (by unfold fits;omega) (by unfold fits;omega) (by have :=HB.t3;have :=HA.t5;omega) (by have :=HB.q2.size;simp;omega) ?_);intro A9 c9 w9 iO kH;have H9:=dt iO kH;clear iO kH);go_roundw
       case rel=>
        refine⟨k+1,A9,c9,l6++[((j:Int),(k:Int))],HK.o,gC,bY,by simpa using H9.q1,(ay HB.q2 _).trans (H9.t1.aK (λ g hg=>(HB.q1.lt g hg).1) (by have :=HB.q2.size;simp;omega)),(λ x hx=>?_),by have :=HB.t3;simp;omega⟩;rcases bV.1 hx with hx|hx
        · exact HB.q3 x hx
        · rw[aN.1 hx]
          exact⟨j,k,_,zs[k]'HK.o,rfl,HA.q4,af HK.o⟩
       case measure=>have :=HK.o;simp[intOf];omega
     · as_aux_lemma=>
       obtain rfl:k=zs.length:=ar;have HB:=iM hown bI gU xV;clear hown bI gU xV;go_wp2_with fail;go_roundw
       case rel=>exact⟨j+1,A6,c6,l6,HJ.o,gC,rfl,HB.q1,HB.q2,HB.q3,by have h1:=HB.t3;have h2:=HA.q5;omega⟩
       case measure=>have :=HJ.o;simp[intOf];omega
  · as_aux_lemma=>
    obtain rfl:j=rs.length:=ar;rw[aX] at xV;have Rc:=HH.t8
    have hst:Ve.st ⟨w,sb,mb,A,cap,rs,A1,c1,A2,c2,T,Lv⟩:=
     ⟨HH.q6,HH.q1,HH.q8.1,HH.q4,HH.q5,HH.q3,Rc.1,(by have h1:=Rc.2.2;show(bc rs).length<=100000;omega),(by have h1:=HZ.q7;have h2:=HZ.t8;show w.heap.size<=sb;omega),(by have h1:=HZ.q8;have h2:=HZ.t8;show w.heap.size<=mb;omega)⟩
    have afQ:Ve.ok ⟨w,sb,mb,A,cap,rs,A1,c1,A2,c2,T,Lv⟩ f0 0 wA:=
     ⟨aq HZ.q1 bI,HZ.q2.below bI,⟨_,HZ.q3.below bI⟩,rfl,λ x hx=>by unfold f0 at hx;unfold fits;simp at hx;omega⟩
    have u6:l.length<=c5/\c5<=maxLen:=by
     obtain⟨A',c',e4,h1,h2⟩:=hown.form;injection e4 with e41 e42 Yc
     subst Yc;exact⟨h1,h2⟩
    have ey:=Ve.all _ hst HZ.q4 10 (ah _) l f0 0 0 wA A5 c5 0 rfl afQ (hown.elems (ak _) (ah _)) (λ g off e=>by
     have h1:=(hown.lt g (by rw[e];rfl)).1;have h2:=HZ.q2.lt;have h3:=HZ.q3.lt;show g≠sb/\g≠mb;omega) u6 (by have :=Rc.2.2;omega) gU (λ i hi=>absurd hi ar) (Qr HH.q3 f0) (by
     have h1:=HH.q7;show 0+il (cA (bc rs) aP) 10<=_;omega)
    have HC:=iM ey bI (HZ.q6.below bI) HZ.o;clear Rc hst afQ u6 ey hown bI gU xV;go_upto_if 51 with(go_at_call 43;refine HC.q1.mono ?_;rintro e w6 ⟨rfl,f2,m2,k1,k2,k3⟩;have H6:=fH k1 k2 k3;clear k1 k2 k3);have KL:aZ w w6:=H6.q1.old
    have Yw:Bk w6 (w.heap.size+1+1) (iw f0) 31:=HC.q3.only H6.q2 (λ e=>by have h1:=HZ.q7;have h2:=HZ.q8;have h3:=HZ.t8;have e':w.heap.size+1+1=sb\/w.heap.size+1+1=mb:=e;omega)
    have Xt:iw f0=#[I J 0,I J 0,I J 0,I J 0,I J 0,I J 0,I J 0,I J 0,I J 0,I J 0]:=rfl;rw[Xt] at Yw;refine forget (λ V=>aZ w V/\Bk V (w.heap.size+1+1) #[I J 0,I J 0,I J 0,I J 0,I J 0,I J 0,I J 0,I J 0,I J 0,I J 0] 31) ⟨KL,Yw⟩ ?_;clear KL Yw Xt H6 HC;clear w6;rintro V ⟨bI,hb⟩;have HV:=dt bI hb;clear hb bI;have IU:(prog.info? 31).map (·.size)=O (#[I J 0,I J 0,I J 0,I J 0,I J 0,I J 0,I J 0,I J 0,I J 0,I J 0]:Array R).size:=aV;go_upto_region 15 with fail;go_wp2_with (refine eK rfl _ _ _ rfl (w.heap.size+1+1) #[I J 0,I J 0,I J 0,I J 0,I J 0,I J 0,I J 0,I J 0,I J 0,I J 0] rfl rfl HV.t1 IU rfl (rB f0) ?_;intro X2 hb2 tI);refine bodyPost_ret (kB rfl rfl (jl (off:=0) (λ j u hu=>by rw[bX,hb2.cell];exact hu) iu rfl IU)) rfl ⟨rfl,HV.q1.trans (tI.aK (λ g hg=>ar) HV.q1.size)⟩
abbrev tRz:Ty (Int×Zn):=fy dr nM
def Yx(x:Nat×Zn):Int×Zn:=((x.1:Int),x.2)
def Ro(A:dB)(n cap:Nat)(AZ:dB)(nZ cZ:Nat):Array R:=(([G A n cap,G AZ nZ cZ]:List R)++fL aP).toArray
section
variable{A:dB}{n cap:Nat}{AZ:dB}{nZ cZ:Nat}
theorem rV(i:Nat)(h:i<2):(Ro A n cap AZ nZ cZ)[i]?=([G A n cap,G AZ nZ cZ]:List R)[i]?:=by unfold Ro;rw[dn,bM (by simpa using h)]
theorem OD(i:Nat):(Ro A n cap AZ nZ cZ)[2+i]?=(fL aP)[i]?:=by
 unfold Ro;rw[dn,bP bY];congr 1
 simp
end
structure Fe where
 W0:agb
 sb:Nat
 A:dB
 n:Nat
 cap:Nat
 AZ:dB
 cZ:Nat
 ZR:List (Nat×Zn)
def Fe.Z(E:Fe):List Zn:=E.ZR.map (·.2)
def Fe.aap(E:Fe)(z:Nat):Nat:=(E.ZR.getD z (0,[])).1
structure Fe.st(E:Fe):Prop where
 box:Bk E.W0 E.sb (Ro E.A E.n E.cap E.AZ E.ZR.length E.cZ) 146
 zon:cG tRz E.W0 E.W0.heap.size E.AZ (E.ZR.map Yx)
 wL:E.ZR.length<=40000
 val:∀x∈E.ZR,zG x.2=true
theorem Fe.wL(E:Fe):E.Z.length=E.ZR.length:=by unfold Fe.Z;simp
theorem Fe.zat(E:Fe){z:Nat}{x:Nat×Zn}(h:E.ZR[z]?=O x):dK E.Z z=x.2/\E.aap z=x.1/\E.Z[z]?=O x.2:=by
 have h1:E.Z[z]?=O x.2:=by unfold Fe.Z;rw[bQ,h];rfl
 refine⟨?_,?_,h1⟩
 · unfold dK;rw[av,h1];rfl
 · unfold Fe.aap;rw[av,h];rfl
section
variable{E:Fe}{X:agb}
theorem Fe.cells(hs:E.st)(hX:Below E.W0.heap.size E.W0 X):X.cell? ⟨E.sb,0,U⟩=O (G E.A E.n E.cap)/\X.cell? ⟨E.sb,1,U⟩=O (G E.AZ E.ZR.length E.cZ)/\E.sb<X.heap.size:=by
 have hb:=hs.box.below hX;refine⟨?_,?_,hb.lt⟩
 · rw[hb.cell];exact rV 0 ar
 · rw[hb.cell];exact rV 1 ar
theorem Fe.Us(hs:E.st)(hX:Below E.W0.heap.size E.W0 X){a:Nat}(ha:a<10):X.cell? ⟨E.sb,2+a*2,U⟩=O (I J (atR aP a).1)/\X.cell? ⟨E.sb,2+a*2+1,U⟩=O (I J (atR aP a).2):=by
 have hb:=hs.box.below hX;have hz:=iC (z:=aP) (k:=a) (by rw[rS];exact ha);unfold jY at hz;rw[dn,dn] at hz;refine⟨?_,?_⟩
 · rw[hb.cell];exact(OD (a*2)).trans hz.1
 · rw[hb.cell,fu];exact(OD (a*2+1)).trans hz.2
theorem Fe.pick(hs:E.st)(hX:Below E.W0.heap.size E.W0 X){z:Nat}(hz:z<E.ZR.length):∃b off x,E.AZ=O ⟨b,off,U⟩/\b<X.heap.size/\Hid (E.ZR[z]?=O x)/\x.2.length=10/\X.cell? ⟨b,off+z*21,U⟩=O (I J (x.1:Nat))/\
 Hid (∀j u,(jY x.2)[j]?=O u->X.cell? ⟨b,off+z*21+(1+j),U⟩=O u):=by
 have hE:=hs.zon.keep hX hX.size;obtain⟨b,off,y,cs,hA,hb,_,hy,_,⟨c1,c2,rfl,⟨rfl,_⟩,hz2⟩,hc⟩:=hE.pick (k:=z) (by rw[bB];exact hz);obtain⟨x,hx⟩:∃x,E.ZR[z]?=O x:=⟨_,af hz⟩;rw[bQ,hx] at hy;have hy':=aO hy;subst hy';obtain⟨rfl,hl,_⟩:=mG hz2
 exact⟨b,off,x,hA,hb,hx,hl,hc 0 _ rfl,λ j u hu=>hc (1+j) u (by have :(jY (Yx x).2)[j]?=O u:=hu;unfold jY at this;rw[dn] at this;rw[bP bY];simpa using this)⟩
end
theorem UN(E:Fe)(hs:E.st)(z r b3 b12:Nat)(X:agb)(hX:Below E.W0.heap.size E.W0 X)(h3:Bk X b3 #[M (O ⟨E.sb,0,U⟩)] 143)(Lh:Bk X b12 #[I J (r:Nat)] 3)(hz:z<E.ZR.length):
 Calls prog 100 #[I J (z:Nat),M (O ⟨b3,0,U⟩),M (O ⟨b12,0,U⟩)] X λ e X'=>e=.returned (.bool (decide (E.aap z=r)))/\aZ X X':=by
 obtain⟨_,k1,k2⟩:=Fe.cells hs hX;obtain⟨b,off,x,Rn,hb,Hx,_,d0,_⟩:=Fe.pick hs hX hz;have hR:=(E.zat Hx.o).2.1;rw[hR];obtain⟨rz,hrz⟩:∃y,x.1=y:=⟨_,rfl⟩;rw[hrz] at d0⊢;have hd:decide (rz=r)=decide ((rz:Int)=(r:Int)):=by by_cases h:rz=r<;>simp[h]<;>omega
 rw[hd];obtain⟨sb,oV⟩:∃y,E.sb=y:=⟨_,rfl⟩;obtain⟨nZ,UO⟩:∃y,E.ZR.length=y:=⟨_,rfl⟩;obtain⟨cZ,UQ⟩:∃y,E.cZ=y:=⟨_,rfl⟩;rw[Rn,oV,UO,UQ] at k1;rw[oV] at k2 h3;rw[UO] at hz;have hzI:(z:Int)<(nZ:Int):=ar;obtain⟨c3,l3⟩:=h3.cl0;obtain⟨c12,l12⟩:=Lh.cl0;clear hs hX h3 Lh Rn Hx hR hrz hd oV UO UQ;go_enter func100,ntmps100;go_wp2_with fail;go_quiet (fail)
 go_wp2_with fail;go_ret;exact⟨rfl,dE⟩
theorem uC{l:List Nat}{k:Nat}{x:Int}(h:(cV l)[k]?=O x):∃z,l[k]?=O z/\x=(z:Int):=by
 unfold cV at h;rw[bQ] at h;cases hl:l[k]? with
 |none=>rw[hl] at h;cases h
 |some z=>rw[hl] at h;exact⟨z,rfl,(aO h).symm⟩
theorem afR(A:dB)(alive:List Nat)(cap:Nat)(p:Nat->Bool)(p1 p2:Nat)(w:agb)(h:ic dr w A (cV alive))(hl:alive.length<=100000)(hc:∀X z,aZ w X->z∈alive->Calls prog 100 #[I J (z:Nat),M (O ⟨p1,0,U⟩),M (O ⟨p2,0,U⟩)] X λ e X'=>e=.returned (.bool (p z))/\aZ X X'):
 Calls prog 44 #[G A alive.length cap,.func (.func 100) #[] #[M (O ⟨p1,0,U⟩),M (O ⟨p2,0,U⟩)]] w λ e w'=>∃i:Int,e=.returned (I J i)/\aZ w w'/\(alive.any p=true->0<=i)/\(alive.any p=false->i= -1):=by
 have HH:=dt h hc;clear h hc;go_enter func44,ntmps44;go_wp2_with fail;go_loopw [8] (λ i wr=>∃j:Nat,j<=alive.length/\i=I J j/\(alive.take j).any p=false/\aZ w wr) (λ i _=>alive.length - (intOf i).toNat)
 case atStart=>exact⟨0,ak _,rfl,rfl,aA _ _⟩
 case round=>
  obtain⟨j,hj,rfl,hall,bI⟩:=hrel;generalize wr=wA at *;by_cases hlt:j<alive.length
  · as_aux_lemma=>
    have rE:(j:Int)<(alive.length:Int):=ar;obtain⟨b,off,x,rfl,hb,_,Hx,d0,f1,f2⟩:=(HH.q1.keep bI (ah _)).fC (k:=j) (by rw[dy];exact hlt);obtain⟨z,hz,rfl⟩:=uC Hx.o;have hbl:b<wA.heap.size:=by have :=bI.size;omega
    have ey:=HH.t1 wA z bI (az hz);have hstep:=Dr p hz;rw[hall] at hstep;have HC:=iM ey hstep bI hz;have HJ:=aG hlt;clear ey hall bI hstep hz Hx;cases hp:p z with
    |true=>
     as_aux_lemma=>
     rw[hp] at HC;clear hp;go_wp2_with (go_at_call 100;refine HC.q1.mono ?_;rintro e w3 ⟨rfl,hb3⟩;have H3:=aG hb3;clear hb3);go_ret
     have qj:alive.any p=true:=by
      have h2:(alive.take (j+1)).any p=true:=by rw[HC.q2];rfl
      obtain⟨y,hy,hpy⟩:=eD.1 h2;exact eD.2 ⟨y,jB hy,hpy⟩
     exact⟨_,rfl,aq HC.q3 H3.o,(λ _=>ar),(λ h=>by rw[qj] at h;cases h)⟩
    |false=>
     as_aux_lemma=>
     rw[hp] at HC;clear hp;go_wp2_with (go_at_call 100;refine HC.q1.mono ?_;rintro e w3 ⟨rfl,hb3⟩;have H3:=aG hb3;clear hb3);go_roundw
     case rel=>exact⟨j+1,HJ.o,gC,by rw[HC.q2];rfl,aq HC.q3 H3.o⟩
     case measure=>have :=HJ.o;simp[intOf];omega
  · as_aux_lemma=>obtain rfl:j=alive.length:=ar;rw[aX] at hall;have HC:=dt hall bI;clear hall bI;go_wp2_with fail;go_ret;exact⟨_,rfl,HC.t1,(λ h=>by rw[HC.q1] at h;cases h),(λ _=>rfl)⟩
theorem abR(A:dB)(alive:List Nat)(cap:Nat)(p:Nat->Bool)(p1 p2:Nat)(w:agb)(h:ic dr w A (cV alive))(hl:alive.length<=100000)(hc:∀X z,aZ w X->z∈alive->Calls prog 100 #[I J (z:Nat),M (O ⟨p1,0,U⟩),M (O ⟨p2,0,U⟩)] X λ e X'=>e=.returned (.bool (p z))/\aZ X X'):
 Calls prog 99 #[G A alive.length cap,.func (.func 100) #[] #[M (O ⟨p1,0,U⟩),M (O ⟨p2,0,U⟩)]] w (jL (.bool (alive.any p)) w):=by
 have ey:=afR A alive cap p p1 p2 w h hl hc;obtain⟨q,hq⟩:∃q,alive.any p=q:=⟨_,rfl⟩;rw[hq] at ey⊢;have HC:=aG ey;clear ey h hc hq;go_enter func99,ntmps99;cases q with
 |true=>
  as_aux_lemma=>
  go_wp2_with (go_at_call 44;refine HC.o.mono ?_;rintro e w3 ⟨i,rfl,hb3,hi,_⟩;have Jg:=hi rfl;have H3:=aG hb3;clear hb3 hi);go_ret;exact⟨by simp[Jg],H3.o⟩
 |false=>
  as_aux_lemma=>
  go_wp2_with (go_at_call 44;refine HC.o.mono ?_;rintro e w3 ⟨i,rfl,hb3,_,hi⟩;have Jg:=hi rfl;have H3:=aG hb3;subst Jg;clear hb3 hi);go_ret;exact⟨rfl,H3.o⟩
theorem MQ{Z:List Zn}{lo hi:Int}{a:Nat}{alive:List Nat}{j z:Nat}(h:alive[j]?=O z):pU Z lo hi a (alive.take (j+1))=(pU Z lo hi a (alive.take j)++[(atR (dK Z z) a).1])++if(atR (dK Z z) a).2<hi then [(atR (dK Z z) a).2+1] else []:=by unfold pU;rw[bu,h,eJ];simp
theorem UR{E:Fe}(hs:E.st){a:Nat}(ha:a<10){alive:List Nat}(xY:∀z∈alive,z<E.ZR.length):N5 (pU E.Z (atR aP a).1 (atR aP a).2 a alive)=stA E.Z aP a alive:=by unfold stA;refine Qx λ z hz=>?_;have hx:=E.zat (af (xY z hz));rw[hx.1];exact Ig (hs.val _ (cD _)) ha
theorem UT(E:Fe)(hs:E.st)(attr:Nat)(alive:List Nat)(AL:dB)(cL:Nat)(w:agb)(hX:Below E.W0.heap.size E.W0 w)(ha:attr<10)(hA:ic dr w AL (cV alive))(xY:∀z∈alive,z<E.ZR.length)(xV:alive.length<=100000):
 Calls prog 101 #[M (O ⟨E.sb,0,U⟩),I J (attr:Nat),G AL alive.length cL] w λ e w'=>∃A c,e=.returned (G A (stA E.Z aP attr alive).length c)/\cH dr 3 w' w.heap.size 0 (G A (stA E.Z aP attr alive).length c) (stA E.Z aP attr alive)/\aZ w w':=by
 have hst:=UR hs ha xY;have mW:=λ j=>Qy E.Z (atR aP attr).1 (atR aP attr).2 attr (alive.take j);have vw:=D6 ha;have aky:(atR aP attr).1<=(atR aP attr).2:=(Ce ha (Cc [] attr)).2;have VZ:=λ(X:agb) (Px:aZ w X)=>Fe.Us hs (hX.trans (Px.mono hX.size)) ha;have hce:=λ(X:agb) (Px:aZ w X)=>Fe.cells hs (hX.trans (Px.mono hX.size));have hpk:=λ(X:agb) (Px:aZ w X) (z:Nat) (hz:z<E.ZR.length)=>Fe.pick hs (hX.trans (Px.mono hX.size)) hz;obtain⟨lo,nA⟩:∃x,(atR aP attr).1=x:=⟨_,rfl⟩;obtain⟨hi,zl⟩:∃x,(atR aP attr).2=x:=⟨_,rfl⟩;rw[nA,zl] at hst vw aky VZ;simp only[nA,zl] at mW;have HH:=Wo hs hA xY hst mW VZ hce hpk nA zl;obtain⟨k0,k1,k2⟩:=hce w (aA _ _);obtain⟨d1,d2⟩:=VZ w (aA _ _);obtain⟨sb,oV⟩:∃y,E.sb=y:=⟨_,rfl⟩;have HS:=aG oV;rw[oV] at k2 d1 d2⊢;have haI:(attr:Int)<10:=ar;clear hs hA xY hst mW VZ hce hpk nA zl oV k0 k1 hX;go_enter func101,ntmps101;go_wp2_with fail;go_loopw [7,21] (λ sl i wr=>∃(j:Nat) (A:dB) (c:Nat),j<=alive.length/\i=I J j/\sl=G A (pU E.Z lo hi attr (alive.take j)).length c/\cH dr 3 wr w.heap.size 0 (G A (pU E.Z lo hi attr (alive.take j)).length c) (pU E.Z lo hi attr (alive.take j))/\aZ w wr) (λ _ i _=>alive.length - (intOf i).toNat)
 case atStart=>exact⟨0,_,1,ak _,rfl,rfl,DW (au _ _ _ _ rfl) (ah _) (by unfold fits;omega),aj _ _⟩
 case round=>
  clear d1 d2 k2;obtain⟨j,A,c,hj,rfl,rfl,hown,bI⟩:=hrel;generalize wr=wA at *;by_cases hlt:j<alive.length
  · as_aux_lemma=>
    have rE:(j:Int)<(alive.length:Int):=ar;obtain⟨bL,oL,x,rfl,Ge,_,Hx,dL,_,_⟩:=(HH.q2.keep bI bI.size).fC (k:=j) (by rw[dy];exact hlt);obtain⟨z,hz,rfl⟩:=uC Hx.o;have hzl:=HH.q3 z (az hz);obtain⟨k0,k1,k2⟩:=HH.q7 wA bI;obtain⟨e1,e2⟩:=HH.q6 wA bI;obtain⟨bZ,oZ,y,Rn,Qi,Hy,UU,_,Hyc⟩:=HH.q8 wA bI z hzl;have hyE:=E.zat Hy.o;have d1:wA.cell? ⟨bZ,oZ+z*21+1+attr*2,U⟩=O (I J (atR y.2 attr).1):=by rw[fu];exact Hyc.o _ _ (iC (by rw[UU];omega)).1
    have d2:wA.cell? ⟨bZ,oZ+z*21+1+attr*2+1,U⟩=O (I J (atR y.2 attr).2):=by rw[fu,fu];exact Hyc.o _ _ (iC (by rw[UU];omega)).2
    obtain⟨q1,q2,q3⟩:=Ig (HH.q1.val _ (az Hy.o)) ha;rw[HH.q9] at q1;rw[HH.t9] at q3;have hstep:=MQ (Z:=E.Z) (lo:=lo) (hi:=hi) (a:=attr) hz;rw[hyE.1] at hstep;obtain⟨r1,hr1⟩:∃x,(atR y.2 attr).1=x:=⟨_,rfl⟩;obtain⟨r3,hr3⟩:∃x,(atR y.2 attr).2=x:=⟨_,rfl⟩;rw[hr1] at d1 q1 q2 hstep;rw[hr3] at d2 q2 q3 hstep;rw[Rn,HS.o] at k1;rw[HS.o] at e1 e2 k2;obtain⟨nZ,UO⟩:∃y,E.ZR.length=y:=⟨_,rfl⟩;obtain⟨cZ,UQ⟩:∃y,E.cZ=y:=⟨_,rfl⟩;rw[UO,UQ] at k1;rw[UO] at hzl;have hzI:(z:Int)<(nZ:Int):=ar;have mW:=HH.q5 j;have O3:(alive.take j).length<=100000:=by rw[dh];omega
    obtain⟨cs,hcs⟩:∃cs,pU E.Z lo hi attr (alive.take j)=cs:=⟨_,rfl⟩;rw[hcs] at hown mW hstep⊢;have hsz:=bI.size;have HA:=lQ hown bI hstep mW hsz;have HJ:=aG hlt;have hcb:=aG (show cs.length+1<=10000000000000/\cs.length+2<=10000000000000 from ar);have bLl:bL<wA.heap.size:=Ge;have bZl:bZ<wA.heap.size:=Qi;clear hown bI hstep mW Rn Hy Hyc hyE hr1 hr3 UO UQ hcs Hx hz k0 O3 hsz;go_upto_region 6 with fail;obtain⟨rb,kS⟩:∃y,wA.heap.size=y:=⟨_,rfl⟩;rw[kS]
    have hY:aZ w (wA.alloc (D #[I J r1,I J r3] 88))/\cH dr 3 (wA.alloc (D #[I J r1,I J r3] 88)) w.heap.size 0 (G A cs.length c) cs/\Bk (wA.alloc (D #[I J r1,I J r3] 88)) rb #[I J r1,I J r3] 88/\∀g,(G A cs.length c).ownBlock=O g->g<rb:=
     ⟨ay HA.q2 _,HA.q1.below (aj _ _) (ak _),au _ _ _ _ kS,λ g hg=>by have :=(HA.q1.lt g hg).2;omega⟩
    refine forget (λ V=>aZ w V/\cH dr 3 V w.heap.size 0 (G A cs.length c) cs/\Bk V rb #[I J r1,I J r3] 88/\∀g,(G A cs.length c).ownBlock=O g->g<rb) hY ?_;have HP:=aG HA.q3;clear hY HA kS bLl bZl Ge Qi dL d1 d2 e1 e2 k1 k2;rintro V ⟨bI,hown,hbr,RP⟩;obtain⟨qr,lr⟩:=hbr.cl0;have HV:=iM bI hown hbr RP;have hsz:=bI.size;clear bI hown hbr RP;go_upto_region 7 with(at_builtin;go_loud (refine gM rfl _ _ rfl A _ c rfl cs rfl (HV.q2.below dE (ak _)) _ rfl r1 (au _ _ _ _ bY) (by unfold fits;omega) hcb.q1 gW ?_);intro A9 c9 w9 iO kH kT;have H9:=dt iO ((show Only (λ g=>(G A cs.length c).ownBlock=O g) V _ from GG).trans kH);clear iO kH kT)
    have hY:aZ w w9/\cH dr 3 w9 w.heap.size 0 (G A9 (cs.length+1) c9) (cs++[r1])/\Bk w9 rb #[I J r1,I J r3] 88:=
     ⟨HV.q1.trans (H9.t1.aK (λ g hg=>(HV.q2.lt g hg).1) HV.q1.size),H9.q1,HV.q3.only H9.t1 (λ e=>by have :=HV.t3 rb e;omega)⟩
    refine forget (λ V=>aZ w V/\cH dr 3 V w.heap.size 0 (G A9 (cs.length+1) c9) (cs++[r1])/\Bk V rb #[I J r1,I J r3] 88) hY ?_;clear hY H9 HV qr lr hsz;clear w9;rintro V ⟨bI,hown,hbr⟩;obtain⟨qr,lr⟩:=hbr.cl0;have hsz:=bI.size;obtain⟨_,e2⟩:=HH.q6 V bI;obtain⟨_,_,k2⟩:=HH.q7 V bI;rw[HS.o] at e2 k2;have HV:=dt bI hown;clear bI hown hbr;by_cases p1:r3<hi
    · as_aux_lemma=>
      have HP1:=aG p1;go_wp2_with fail;go_quiet (fail)
      go_wp2_with (at_builtin;go_loud (refine gM rfl _ _ rfl A9 _ c9 rfl (cs++[r1]) bY (HV.t1.below dE (ak _)) _ rfl (r3+1) (au _ _ _ _ bY) (by unfold fits;omega) (by have :=hcb.t1;simp;omega) gW ?_);intro A8 c8 w8 iO kH kT;have H9:=dt iO ((show Only (λ g=>(G A9 (cs.length+1) c9).ownBlock=O g) V _ from GG).trans kH);clear iO kH kT);go_roundw
      case rel=>
       have e:pU E.Z lo hi attr (alive.take (j+1))=(cs++[r1])++[r3+1]:=by rw[HP.o,if_pos HP1.o]
       exact⟨j+1,A8,c8,HJ.o,gC,by rw[e];simp,by rw[e];simpa using H9.q1,HV.q1.trans (H9.t1.aK (λ g hg=>(HV.t1.lt g hg).1) HV.q1.size)⟩
      case measure=>have :=HJ.o;simp[intOf];omega
    · as_aux_lemma=>
      have HP1:=aG p1;go_wp2_with fail;go_quiet (fail)
      go_wp2_with fail;go_roundw
      case rel=>
       have e:pU E.Z lo hi attr (alive.take (j+1))=cs++[r1]:=by rw[HP.o,if_neg (Int.not_lt.2 (by have :=HP1.o;omega):¬r3<hi),dU]
       exact⟨j+1,A9,c9,HJ.o,gC,by rw[e];simp,by rw[e];simpa using HV.t1.below dE (ak _),(show aZ w _ from aq HV.q1 dE)⟩
      case measure=>have :=HJ.o;simp[intOf];omega
  · as_aux_lemma=>obtain rfl:j=alive.length:=ar;have mW:=HH.q5 alive.length;rw[aX] at hown mW⊢;have hst:=HH.q4;obtain⟨cs,hcs⟩:∃cs,pU E.Z lo hi attr alive=cs:=⟨_,rfl⟩;rw[hcs] at hown mW hst⊢;have HA:=iM hown bI mW hst;clear hown bI mW hst hcs;go_upto_region 11 with(go_at_call 39;refine(yh _ _ _ _ _ HA.q1 (by have :=HA.q3;omega)).mono ?_;rintro e w4 ⟨rfl,k1,k2⟩;have HK:=dt k1 k2;clear k1 k2);go_wp2_with (go_at_call 40;refine(qE _ _ _ _ _ HK.q1).mono ?_;rintro e w5 ⟨A5,c5,rfl,k1,k2,k3⟩;have HK2:=fH k1 k2 k3;clear k1 k2 k3);go_ret;have Az:aZ w w4:=HA.q2.trans (HK.t1.aK (λ g hg=>(HA.q1.lt g hg).1) HA.q2.size);rw[<-HA.t3];exact⟨A5,c5,rfl,HK2.q1,Az.trans (HK2.t2.aK (λ g hg=>(HK.q1.lt g hg).1) Az.size)⟩
def ld(a:Nat)(al:List Nat):List Int:=(a:Int)::al.flatMap λ z=>[((z % 256:Nat):Int),((z / 256 % 256:Nat):Int),((z / 65536 % 256:Nat):Int)]
theorem MR{a:Nat}{al:List Nat}{j z:Nat}(h:al[j]?=O z):ld a (al.take (j+1))=ld a (al.take j)++[((z % 256:Nat):Int),((z / 256 % 256:Nat):Int),((z / 65536 % 256:Nat):Int)]:=by unfold ld;rw[bu,h,eJ];simp
theorem zM(a:Nat)(al:List Nat):(ld a al).length=1+3*al.length:=by
 unfold ld;induction al with
 |nil=>rfl
 |cons z al ih=>
  rw[bD] at ih⊢;rw[gZ,ax];simp only[bD,dG];omega
theorem Ec{a:Nat}(ha:a<=10)(al:List Nat):∀x∈ld a al,0<=x/\x<=255:=by
 intro x hx;unfold ld at hx;rcases aR.1 hx with rfl|hx
 · omega
 · obtain⟨z,_,hx⟩:=dP.1 hx
   simp only[aR,bH,or_false] at hx;rcases hx with rfl|rfl|rfl<;>omega
theorem Qz:∀{al bl:List Nat}{a b:Nat},(∀z∈al,z<16777216)->(∀z∈bl,z<16777216)->ld a al=ld b bl->a=b/\al=bl:=by
 intro al bl a b ha hb h;unfold ld at h;injection h with h1 h2
 refine⟨ar,?_⟩;clear h1;induction al generalizing bl with
 |nil=>
  cases bl with
  |nil=>rfl
  |cons z bl=>simp at h2
 |cons z al ih=>
  cases bl with
  |nil=>simp at h2
  |cons y bl=>
   simp only[gZ,eU,eV,iq] at h2;obtain⟨h3,h4,h5,h6⟩:=h2;have hz:=ha z bY;have hy:=hb y bY;have e:z=y:=ar;subst e;rw[ih (λ z hz=>ha z (by simp[hz])) (λ z hz=>hb z (by simp[hz])) h6]
theorem QA:∀{xs ys:List Int},(∀x∈xs,0<=x/\x<=255)->(∀y∈ys,0<=y/\y<=255)->strOfNums xs=strOfNums ys->xs=ys:=by
 intro xs ys hx hy h
 have h2:(xs.map λ n=>UInt8.ofNat n.toNat)=(ys.map λ n=>UInt8.ofNat n.toNat):=by have :=congrArg (λ b:BA0=>b.data.toList) h;simpa [strOfNums] using this
 clear h;induction xs generalizing ys with
 |nil=>cases ys with
  |nil=>rfl
  |cons y ys=>simp at h2
 |cons x xs ih=>cases ys with
  |nil=>simp at h2
  |cons y ys=>
   rw[aH,aH] at h2;injection h2 with h3 h4
   have k1:=hx x bY;have k2:=hy y bY;have h5:=congrArg UInt8.toNat h3;simp only[UInt8.toNat_ofNat'] at h5;have e:x=y:=ar;rw[e,ih (λ z hz=>hx z (by simp[hz])) (λ z hz=>hy z (by simp[hz])) h4]
theorem MS(xs:List Int):(strOfNums xs).size=xs.length:=by unfold strOfNums;show(List.toArray _).size=_;simp
structure Se where
 E:Fe
 b4:Nat
 b3:Nat
 b5:Nat
 b9:Nat
 b8:Nat
 Wl:Nat
 mb:Nat
 AN:dB
 cN:Nat
 need:List Nat
 F:FuncId
 jz:Array R
 W:Fc->Bool
def Se.fn(S:Se):R:=.func (.func S.F) #[] S.jz
def Se.self(S:Se):R:=.func (.func 98) #[] #[M (O ⟨S.b4,0,U⟩),M (O ⟨S.b3,0,U⟩),M (O ⟨S.b5,0,U⟩),M (O ⟨S.b9,0,U⟩),M (O ⟨S.b8,0,U⟩),M (O ⟨S.Wl,0,U⟩)]
structure Se.st(S:Se):Prop where
 e:S.E.st
 need:cG dr S.E.W0 S.E.W0.heap.size S.AN (cV S.need)
 nl:S.need.length<=100
 Yy:∀f g,cu S.E.Z 10 f=cu S.E.Z 10 g->S.W f=S.W g
 want:∀X f,Below S.E.W0.heap.size S.E.W0 X->f.length=10->Calls prog S.F (#[.agg (iw f)]++S.jz) X λ e X'=>e=.returned (.bool (S.W f))/\aZ X X'
 ent:∀args w,(callFunc S.F args).run prog w=.ok (.enter S.F args) w
 g9:S.E.W0.heap.size<=S.b9
 gm:S.E.W0.heap.size<=S.mb
 n9:∀g,g=S.b9\/g=S.mb->g≠S.b4/\g≠S.b3/\g≠S.b5/\g≠S.b8/\g≠S.Wl
 nm:S.b9≠S.mb
structure Se.ok(S:Se)(f:Fc)(m:Nat)(X:agb):Prop where
 old:Below S.E.W0.heap.size S.E.W0 X
 k4:Bk X S.b4 #[G S.AN S.need.length S.cN] 117
 k3:Bk X S.b3 #[M (O ⟨S.E.sb,0,U⟩)] 143
 k5:Bk X S.b5 #[S.fn] 35
 k9:Bk X S.b9 (iw f) 31
 k8:Bk X S.b8 #[.map (O S.mb)] 102
 Z6:Bk X S.Wl #[S.self] 220
 fl:f.length=10
 ff:∀x∈f,fits x
 map:∃g,iI ql prog 9 4 X S.mb m g/\∀a al,a<=10->(∀z∈al,z<16777216)->g (strOfNums (ld a al))=O true->¬lS S.E.Z aP S.E.aap S.need S.W a al
section
variable{S:Se}{f:Fc}{m:Nat}{X X':agb}
theorem Se.ok.only{T:Nat->Prop}(hs:S.st)(h:S.ok f m X)(ho:Only T X X')(hT:∀g,T g->S.E.W0.heap.size<=g/\g≠S.b4/\g≠S.b3/\g≠S.b5/\g≠S.b8/\g≠S.Wl/\g≠S.b9/\g≠S.mb):S.ok f m X':=by obtain⟨g,hg,hg2⟩:=h.map;exact⟨h.old.trans (ho.aK (λ g hg=>(hT g hg).1) h.old.size),h.k4.only ho (λ e=>(hT _ e).2.1 rfl),h.k3.only ho (λ e=>(hT _ e).2.2.1 rfl),h.k5.only ho (λ e=>(hT _ e).2.2.2.1 rfl),h.k9.only ho (λ e=>(hT _ e).2.2.2.2.2.2.1 rfl),h.k8.only ho (λ e=>(hT _ e).2.2.2.2.1 rfl),h.Z6.only ho (λ e=>(hT _ e).2.2.2.2.2.1 rfl),h.fl,h.ff,⟨g,hg.only ho (λ e=>(hT _ e).2.2.2.2.2.2.2 rfl),hg2⟩⟩
theorem Se.ok.below(hs:S.st)(h:S.ok f m X)(hb:aZ X X'):S.ok f m X':=h.only hs (T:=λ _=>False) (aw hb) (λ _ h=>h.elim)
theorem Se.ok.fact(h:S.ok f m X){a:Nat}(ha:a<10):X.cell? ⟨S.b9,a,U⟩=O (I J (eO f a)):=by rw[h.k9.cell];exact kQ (by rw[h.fl];exact ha)
theorem Se.ok.Qe(hs:S.st)(h:S.ok f m X){a:Nat}(ha:a<10){v:Int}(hv:fits v):S.ok (f.set a v) m (X.setCell ⟨S.b9,a,U⟩ (I J v)):=by
 obtain⟨g,hg,hg2⟩:=h.map;have ho:Only (λ g=>g=S.b9) X (X.setCell ⟨S.b9,a,U⟩ (I J v)):=(Only.refl (λ g=>g=S.b9) X).aS (p:=⟨S.b9,a,U⟩) (.inl rfl) _;have hb:=h.k9.aS a (I J v);rw[TX] at hb;have hn:=hs.n9 S.b9 (.inl rfl);refine⟨h.old.trans (ho.aK (λ g hg=>by rw[hg];exact hs.g9) h.old.size),h.k4.only ho (λ e=>hn.1 e.symm),h.k3.only ho (λ e=>hn.2.1 e.symm),h.k5.only ho (λ e=>hn.2.2.1 e.symm),hb,h.k8.only ho (λ e=>hn.2.2.2.1 e.symm),h.Z6.only ho (λ e=>hn.2.2.2.2 e.symm),by rw[mD];exact h.fl,λ x hx=>?_,⟨g,hg.only ho (λ e=>hs.nm e.symm),hg2⟩⟩;rcases List.mem_or_eq_of_mem_set hx with hx|rfl
 · exact h.ff x hx
 · exact hv
end
theorem abT(w:agb)(B:Nat)(cs:List R)(x:Int)(h:Q5.rd w B cs x):∀u∈cs,u.oneCell'=true:=by obtain⟨rfl,_⟩:=h;intro u hu;rw[aN.1 hu];rfl
theorem Io{ops:Array Oper}{rest:List Oper}{o:Oper}{a:Act}{Q:lC}{X:agb}{base:Nat}(hgd:o.guard=U)(s x:Operand)(ho:o.op=.call {callee:=.builtin .append,args:=#[s,x],argTypes:=#[198,198]})
 (A:dB)(n c:Nat)(hs:a.eval s=G A n c)(zs:List Int)(hn:zs.length=n)(hown:cH Q5 5 X base 0 (G A n c) zs)(g:Nat)(hx:a.eval x=G (O ⟨g,0,U⟩) 3 3)(x1 x2 x3:Int)(hg:Bk X g #[.int .u8 x1,.int .u8 x2,.int .u8 x3] 5)
 (h1:0<=x1/\x1<=255)(h2:0<=x2/\x2<=255)(h3:0<=x3/\x3<=255)
 (h63:zs.length+3<=10000000000000)(hbase:base<=X.heap.size)
 (h:∀A' c' w',cH Q5 5 w' base 0 (G A' (n+3) c') (zs++[x1,x2,x3])->Only (λ g=>(G A n c).ownBlock=O g) X w'->
  wpList prog ops Q rest (a.put o.dst (G A' (n+3) c')) w'):wpList prog ops Q (o::rest) a X:=by
 subst hn
 refine en (T:=Q5) (base:=base) (B:=0) (e:=5) (v:=G A zs.length c) (qs:=zs) hgd s x _ ho 1 o7 aV cj abT hs hown (O ⟨g,0,U⟩) 3 3 [x1,x2,x3] [[.int .u8 x1],[.int .u8 x2],[.int .u8 x3]] hx rfl rfl (λ i k1 k2=>by
  have hi:i<3:=by simpa using k1
  match i,hi with
  |0,_=>exact⟨rfl,h1⟩
  |1,_=>exact⟨rfl,h2⟩
  |2,_=>exact⟨rfl,h3⟩) (by have :=gL hg 3;simpa using this) (by unfold maxLen;omega) ar hbase (ak _) ?_
 intro A' c' w' h1 h2 h3 h4;exact h A' c' w' h1 ((Only.refl _ _).grown h3 (λ g e=>.inl e))
theorem KM{X:agb}{base:Nat}{A:dB}{c:Nat}{xs:List Int}(h:cH Q5 5 X base 0 (G A xs.length c) xs)(hn:0<xs.length):(convert 198 9 (G A xs.length c)).run prog X=.ok (.string (strOfNums xs)) X:=by
 have hE:=h.elems (ak _) (ah _);obtain⟨b,off,cs,hA,_,_,_⟩:=hE 0 hn;subst hA;refine run_convert_bytes_arg X 198 5 o7 nI b off xs.length c xs rfl (λ i hi=>?_) 9 bn;obtain⟨b',off',cs',hA',_,⟨rfl,_⟩,hc⟩:=hE i hi;injection hA' with hA'
 injection hA' with h1 h2
 subst h1 h2;have h0:=hc 0 _ rfl;have e:Q5.n=1:=rfl;rw[e,Nat.mul_one,Nat.add_zero] at h0;rw[h0,av,af hi];rfl
end
end Go.Proofs.YtbcpcneadjcmlaaGreatDoor
