import Derived.Test.YtbcpcneadjcmlaaGreatDoorK23
import Derived.Deep.RegionLaw
import Derived.Lib.SliceRun
import Derived.Shelf.Spec.SlicesGrow
namespace Go.Proofs.YtbcpcneadjcmlaaGreatDoor
open Go.Proofs.Tryz
set_option maxRecDepth 100000
set_option maxHeartbeats 16000000
set_option linter.unusedVariables false
set_option linter.unusedSimpArgs false
open Value renaming int→I,slice→G,pointer→M
open IntKind renaming i64→J
open Obj renaming cells→D
open Option renaming some→O,none→U
open Go renaming Value→R,World→agb
open List renaming length→agh
section
open Go.RowKit Go.Maps
attribute [local go_sem] aQ aC bW
def SrR(S:Se)(k:Nat)(alive:List Nat)(f:Fc)(m:Nat)(w:agb)(e:Ending)(w':agb):Prop:=
 ∃(b:Bool) (f':Fc) (m':Nat),e=.returned (.bool b)/\S.ok f' m' w'/\Only (λ g=>g=S.b9\/g=S.mb) w w'/\(∀i,i<10 - k->eO f' i=eO f i)/\m<=m'/\m'<=m+il (cA S.E.Z aP) k/\
  (b=true->ik aP f'/\D9 S.E.aap S.need (cu S.E.Z 10 f')/\S.W f'=true)/\(b=false->¬lS S.E.Z aP S.E.aap S.need S.W (10 - k) alive)
def Se.abU(S:Se)(k:Nat):Prop:=∀(alive:List Nat)(f:Fc)(m:Nat)(w:agb)(AL:dB)(cL:Nat)(a:Int),a=((10 - k:Nat):Int)->S.ok f m w->
 ic dr w AL (cV alive)->(∀g off,AL=O ⟨g,off,U⟩->g≠S.b9/\g≠S.mb)->(alive.length<=cL/\cL<=maxLen)->alive.length<=100000->(∀z∈alive,z<S.E.ZR.length)->cu S.E.Z (10 - k) f=alive->E7 aP (10 - k) f->
 m+il (cA S.E.Z aP) k<=10995116277760->
 Calls prog 98 #[I J a,G AL alive.length cL,M (O ⟨S.b4,0,U⟩),M (O ⟨S.b3,0,U⟩),M (O ⟨S.b5,0,U⟩),M (O ⟨S.b9,0,U⟩),M (O ⟨S.b8,0,U⟩),M (O ⟨S.Wl,0,U⟩)] w (SrR S k alive f m w)
structure Sn(S:Se)(w:agb)(at_:Nat)(alive:List Nat)(f:Fc)(m C:Nat)(vN:R)(nm:List Int)(vS:R)(vs:List Int)(j:Nat)(f':Fc)(m':Nat)(X:agb):Prop where
 ok:S.ok f' m' X
 only :Only (λ g=>g=S.b9\/g=S.mb) w X
 same:∀i,i<at_->eO f' i=eO f i
 m1:m<=m'
 m2:m'<=m+j*C
 Yz:cH Q5 5 X w.heap.size 0 vN nm
 abV:cH dr 3 X w.heap.size 0 vS vs
 agC:∀c∈vs.take j,¬lS S.E.Z aP S.E.aap S.need S.W (at_+1) (gg S.E.Z at_ alive c)
theorem IG{S:Se}{f:Fc}{m:Nat}{X:agb}(h:S.ok f m X):S.b9<X.heap.size/\S.mb<X.heap.size:=by obtain⟨_,hg,_⟩:=h.map;exact⟨h.k9.lt,hg.lt⟩
theorem KN{Z:List Zn}{at_:Nat}{f:Fc}{alive:List Nat}(h:cu Z at_ f=alive)(hf:at_<f.length)(c:Int):cu Z (at_+1) (f.set at_ c)=gg Z at_ alive c:=by rw[nV,qM hf,if_pos rfl,sk (g:=f) (λ a ha=>by rw[qM hf,if_neg ar]),h];rfl
theorem Se.afU(S:Se)(hs:S.st)(k:Nat)(hk:k<=10)(ih:∀j,k=j+1->S.abU j):S.abU k:=by
 intro alive f m w AL cL a ha h hA Ui Ol xV xY hlv rM hm;obtain⟨at_,hat⟩:∃x,10 - k=x:=⟨_,rfl⟩;rw[hat] at ha hlv rM;subst ha;have Dd:at_<=10:=ar;have zZ:=hs.nl;have hW0:=h.old.size;have HH:=adL hs h hA Ui Ol xY hlv rM hm hat ih;obtain⟨b4,e4⟩:∃x,S.b4=x:=⟨_,rfl⟩;obtain⟨b3,e3⟩:∃x,S.b3=x:=⟨_,rfl⟩;obtain⟨b5,e5⟩:∃x,S.b5=x:=⟨_,rfl⟩;obtain⟨b9,e9⟩:∃x,S.b9=x:=⟨_,rfl⟩;obtain⟨b8,e8⟩:∃x,S.b8=x:=⟨_,rfl⟩;obtain⟨Wl,Rj⟩:∃x,S.Wl=x:=⟨_,rfl⟩;have HB:=uF e4 e3 e5 e9 e8 Rj;obtain⟨q4,l4⟩:=h.k4.cl0;rw[e4] at q4 l4;have hres:∀(e:Ending)(X:agb),e=.returned (.bool false)->aZ w X->¬lS S.E.Z aP S.E.aap S.need S.W (10 - k) alive->SrR S k alive f m w e X:=λ e X he hX hno=>⟨false,f,m,he,h.below hs hX,aw hX,λ _ _=>rfl,ah _,Nat.le_add_right _ _,(λ e=>by cases e),λ _=>hno⟩;have HR:=aG hres;rw[e4,e3,e5,e9,e8,Rj];clear hs h hA Ui Ol xY hlv rM hm ih e4 e3 e5 e9 e8 Rj hres;go_enter func98,ntmps98;go_wp2_with fail;go_loopw [24] (λ i wr=>∃j:Nat,j<=S.need.length/\i=I J j/\D9 S.E.aap (S.need.take j) alive/\aZ w wr) (λ i _=>S.need.length - (intOf i).toNat)
 case atStart=>exact⟨0,ak _,rfl,(λ r hr=>absurd hr bY),aA _ _⟩
 case round=>
  clear q4 l4;obtain⟨j,hj,rfl,nJ,bI⟩:=hrel;generalize wr=wA at *;by_cases hlt:j<S.need.length
  · as_aux_lemma=>
    have rE:(j:Int)<(S.need.length:Int):=ar;have gU:=HH.q2.below HH.q1 bI;obtain⟨bN,oN,x,T2,vI,_,Hx,dN,_,_⟩:=(HH.q1.need.keep gU.old gU.old.size).fC (k:=j) (by rw[dy];exact hlt);obtain⟨r,hr,rfl⟩:=uC Hx.o;have hq:∃q,alive.any (λ z=>decide (S.E.aap z=r))=q:=⟨_,rfl⟩;obtain⟨q,hq⟩:=hq;have ey:=λ(X:agb) (b12:Nat) (hX:aZ w X) (Lh:Bk X b12 #[I J (r:Nat)] 3)=>abR AL alive cL (λ z=>decide (S.E.aap z=r)) S.b3 b12 X (HH.q3.keep hX hX.size) xV (λ Y z hY hz=>UN S.E HH.q1.e z r S.b3 b12 Y ((HH.q2.below HH.q1 hX).old.trans (hY.mono (HH.q2.below HH.q1 hX).old.size)) (((HH.q2.below HH.q1 hX).k3).below hY) (Lh.below hY) (HH.q6 z hz));rw[hq] at ey;rw[HB.q2] at ey;have afV:=λ(X:agb) (hX:aZ wA X)=>aq bI hX;have HC:=lQ ey nJ bI hr hq;have HJ:=aG hlt;rw[T2];clear gU ey nJ bI hr hq afV Hx T2;have hbl:bN<wA.heap.size:=vI;clear vI;go_upto_if 31 with(go_at_call 99;refine(HC.q1 _ _ (aq HC.q3 dE) (au _ _ _ _ rfl)).mono ?_;rintro e w3 ⟨rfl,hb3⟩;have H3:=aG (aq HC.q3 (aq dE hb3));clear hb3);cases q with
    |false=>
     as_aux_lemma=>
     go_wp2_with fail;go_ret;refine HR.o _ _ rfl H3.o ?_;rw[HH.Ci];refine UJ Dd (λ hn=>?_);obtain⟨z,hz,e⟩:=hn r (az HC.q4);have h9:=HC.t4;rw[List.any_eq_false] at h9;exact h9 z hz (by simp[e])
    |true=>
     as_aux_lemma=>
     go_wp2_with fail;go_roundw
     case rel=>
      refine⟨j+1,HJ.o,gC,λ r' Fv=>?_,H3.o⟩;rw[bu,HC.q4] at Fv;rcases bV.1 Fv with Fv|Fv
      · exact HC.q2 r' Fv
      · rw[aN.1 (by simpa using Fv:r'∈ [r])]
        obtain⟨z,hz,e⟩:=eD.1 HC.t4;exact⟨z,hz,by simpa using e⟩
     case measure=>have :=HJ.o;simp[intOf];omega
  · obtain rfl:j=S.need.length:=ar
    rw[aX] at nJ;have gU:=HH.q2.below HH.q1 bI;obtain⟨q5,l5⟩:=gU.k5.cl0;have HC:=fH gU nJ bI;have hlv:=HH.q7;clear gU nJ bI;rcases gO k with Sd|hkp
    · as_aux_lemma=>have h10:at_=10:=ar;have arD:(at_:Int)=10:=ar;obtain⟨q9,l9⟩:=HC.q1.k9.cl0;rw[HB.q3] at q5 l5;rw[HB.q4] at q9 l9;unfold Se.fn at q5;have KO:=HH.q1.ent;have wY:=yq HC.q1.fl;rw[wY] at q9;have hw:=HH.q1.want wA f HC.q1.old HC.q1.fl;rw[wY] at hw;obtain⟨q,hq⟩:∃q,S.W f=q:=⟨_,rfl⟩;rw[hq] at hw;have HW:=dt hw hq;clear hw hq wY hlv;go_wp2_with (go_at_fn S.F;refine HW.q1.mono ?_;rintro e w3 ⟨rfl,hb3⟩;have H3:=aG (aq HC.t2 hb3);clear hb3);go_ret;have rM:=HH.q8;have hlv:=HH.q7;rw[h10] at rM hlv;refine⟨q,f,m,rfl,HH.q2.below HH.q1 H3.o,aw H3.o,λ _ _=>rfl,ah _,Nat.le_add_right _ _,λ e=>⟨λ a ha=>rM a ha,by rw[hlv];exact HC.q2,by rw[HW.t1];exact e⟩,λ e=>?_⟩;have h0:10 - k=10:=ar;rw[h0];exact Qv HH.q1.Yy hlv (by rw[HW.t1];exact e)
    · obtain⟨k',rfl⟩:∃k',k=k'+1:=⟨k - 1,ar⟩
      have qq:9 - k'=at_:=ar;have Wm:at_<10:=ar;have Z3:¬(at_:Int)=10:=ar
      have hwr:IntKind.u8.wrap (at_:Int)=(at_:Int):=by have :∀a:Nat,a<10->IntKind.u8.wrap (a:Int)=(a:Int):=cj;exact this at_ Wm
      clear q5 l5 hlv;go_upto_region 10 with fail;have afW:((at_:Int)==10)=false:=by simp[Z3]
      rw[afW];clear afW
      have UW:cH Q5 5 (wA.alloc (D #[.int .u8 (at_:Int)] 5)) w.heap.size 0 (G (O ⟨wA.heap.size,0,U⟩) (ld at_ []).length 1) (ld at_ []):=by
       have hb:Bk (wA.alloc (D #[.int .u8 (at_:Int)] 5)) wA.heap.size #[.int .u8 (at_:Int)] 5:=au _ _ _ _ rfl;refine⟨[[.int .u8 (at_:Int)]],rfl,λ i h1 h2=>?_,rfl,.inr ⟨wA.heap.size,1,_,rfl,HC.t2.size,hb,ah _,by unfold maxLen;omega,rfl,rfl⟩⟩;obtain rfl:i=0:=by simp at h2;omega
       exact⟨rfl,by show(0:Int)<=(at_:Int);omega,by show(at_:Int)<=255;omega⟩
      obtain⟨nb,nS⟩:∃y,wA.heap.size=y:=⟨_,rfl⟩;rw[nS] at UW⊢;refine forget (λ V=>S.ok f m V/\aZ w V/\cH Q5 5 V w.heap.size 0 (G (O ⟨nb,0,U⟩) (ld at_ []).length 1) (ld at_ [])) ⟨HC.q1.below HH.q1 (aj _ _),ay HC.t2 _,UW⟩ ?_;have HND:=aG HC.q2;clear UW HC nS hwr;clear wr wA;rintro V ⟨k1,k2,k3⟩;have HV:=fH k1 k2 k3;clear k1 k2 k3;go_wp2_with fail;go_loopw [13,43] (λ sl i wr=>∃(i2:Nat) (A:dB) (c:Nat),i2<=alive.length/\i=I J i2/\sl=G A (ld at_ (alive.take i2)).length c/\cH Q5 5 wr w.heap.size 0 (G A (ld at_ (alive.take i2)).length c) (ld at_ (alive.take i2))/\aZ w wr) (λ _ i _=>alive.length - (intOf i).toNat)
      case atStart=>exact⟨0,_,1,ak _,rfl,rfl,HV.t2,HV.q2⟩
      case round=>
       clear HV;clear V;obtain⟨i2,A2,c2,Jg,rfl,rfl,hown,bI⟩:=hrel;generalize wr=wB at *;by_cases Ij:i2<alive.length
       · as_aux_lemma=>
         have hil:(i2:Int)<(alive.length:Int):=ar;obtain⟨bL,oL,x,rfl,Ge,_,Hx,dL,_,_⟩:=(HH.q3.keep bI bI.size).fC (k:=i2) (by rw[dy];exact Ij);obtain⟨z,hz,rfl⟩:=uC Hx.o;have hzl:z<40000:=by have h1:=HH.q6 z (az hz);have h2:=HH.q1.e.wL;omega
         have hstep:=MR (a:=at_) hz;have hln:=zM at_ (alive.take i2);have Zd:(alive.take i2).length<=100000:=by rw[dh];omega
         obtain⟨nm,Je⟩:∃nm,ld at_ (alive.take i2)=nm:=⟨_,rfl⟩;rw[Je] at hown hstep hln⊢;have afX:nm.length+3<=10000000000000:=ar;have HA:=iM hown bI hstep afX;have HJ:=aG Ij;clear hown bI hstep hln Zd Je Hx hz afX
         have e3:[((z % 256:Nat):Int),((z / 256 % 256:Nat):Int),((z / 65536 % 256:Nat):Int)]=[(z:Int)% 256,(z:Int)/ 256,(z:Int)/ 65536]:=by have h1:((z % 256:Nat):Int)=(z:Int)% 256:=ar;have h2:((z / 256 % 256:Nat):Int)=(z:Int)/ 256:=ar;have h3:((z / 65536 % 256:Nat):Int)=(z:Int)/ 65536:=ar;rw[h1,h2,h3]
         have HE3:=aG e3;clear e3;go_wp2_with (at_builtin;go_loud (refine Io rfl _ _ rfl A2 _ c2 rfl nm rfl (HA.q1.below (aj _ _) (ak _)) _ rfl ((z:Int)% 256) ((z:Int)/ 256) ((z:Int)/ 65536) (au _ _ _ _ rfl) ar ar ar HA.t3 (by have :=HA.q2.size;simp;omega) ?_);intro A9 c9 w9 iO kH;have H9:=dt iO kH;clear iO kH);go_roundw
         case rel=>
          have e:ld at_ (alive.take (i2+1))=nm++[(z:Int)% 256,(z:Int)/ 256,(z:Int)/ 65536]:=by rw[HA.q3,HE3.o]
          exact⟨i2+1,A9,c9,HJ.o,gC,by rw[e];simp,by rw[e];simpa using H9.q1,(ay HA.q2 _).trans (H9.t1.aK (λ g hg=>(HA.q1.lt g hg).1) (by have :=HA.q2.size;simp;omega))⟩
         case measure=>have :=HJ.o;simp[intOf];omega
       · obtain rfl:i2=alive.length:=ar
         rw[aX] at hown⊢;have hln:=zM at_ alive;have nS:=Ec (a:=at_) Dd alive;obtain⟨nm,Je⟩:∃nm,ld at_ alive=nm:=⟨_,rfl⟩;rw[Je] at hown hln nS⊢;have gU:=HH.q2.below HH.q1 bI;have hcv:=KM hown ar;obtain⟨g0,EK,UX⟩:=gU.map;obtain⟨q8,l8⟩:=gU.k8.cl0;rw[HB.q5] at q8 l8;have hkey:keyOf prog 9 (.string (strOfNums nm))=O (ql (strOfNums nm)):=Tz (by rw[MS];unfold maxLen;omega);obtain⟨q,hq⟩:∃q,(g0 (strOfNums nm)).getD false=q:=⟨_,rfl⟩;have HN:=Ru hown gU EK UX hkey hq Je bI nS;clear hown gU EK UX hkey hq bI nS hln;go_upto_if 62 with(at_lookup;refine mg rfl _ _ _ rfl 9 4 lV mE dW aV rfl HN.q3 _ (strOfNums nm) rfl HN.q5 ?_;rw[HN.q6]);clear hcv q8 l8;cases q with
         |true=>
          as_aux_lemma=>
          go_wp2_with fail;go_ret;refine HR.o _ _ rfl HN.q8 ?_;rw[HH.Ci];have hsm:∀z∈alive,z<16777216:=λ z hz=>by have h1:=HH.q6 z hz;have h2:=HH.q1.e.wL;omega
          refine HN.q4 at_ alive Dd hsm ?_;have h9:=HN.q6;rw[HN.q7];cases hg:g0 (strOfNums nm) with
          |none=>rw[hg] at h9;cases h9
          |some b=>rw[hg] at h9;have :b=true:=h9;rw[this]
         |false=>
          obtain⟨C,hC⟩:∃x,il (cA S.E.Z aP) k'=x:=⟨_,rfl⟩;obtain⟨cN,Kj⟩:∃x,cA S.E.Z aP at_=x:=⟨_,rfl⟩;have iF:il (cA S.E.Z aP) (k'+1)=2+cN*C:=by rw[<-Kj,<-hC,<-qq];rfl
          have Ga:(stA S.E.Z aP at_ alive).length<=300000/\(stA S.E.Z aP at_ alive).length<=cN:=by have h1:=sS S.E.Z aP at_ alive;have h2:=Z0 S.E.Z at_;have h3:=S.E.wL;have h4:=HH.q1.e.wL;omega
          have hall:=λ h=>Qw (Z:=S.E.Z) (lim:=aP) (aap:=S.E.aap) (need:=S.need) (W:=S.W) (alive:=alive) Wm h;have abW:=λ c (hc:c∈stA S.E.Z aP at_ alive)=>UK (show(atR aP at_).1<=(atR aP at_).2 from(Ce Wm (Cc [] at_)).2) hc;have hcut:=UT S.E HH.q1.e at_ alive AL cL wB HN.q2.old Wm (HH.q3.keep HN.q8 HN.q8.size) HH.q6 xV;obtain⟨vs,hvs⟩:∃vs,stA S.E.Z aP at_ alive=vs:=⟨_,rfl⟩;rw[hvs] at Ga hall abW hcut;obtain⟨sb,oV⟩:∃x,S.E.sb=x:=⟨_,rfl⟩;rw[oV] at hcut;obtain⟨q3,l3⟩:=HN.q2.k3.cl0;rw[HB.q2] at q3 l3;rw[oV] at q3;have arE:=Ga.1;have HCU:=yK hcut iF Ga hall abW hC oV (HB.q4);clear iF Ga hall abW hcut hvs hC Kj oV;go_upto_region 18 with(go_at_call 101;refine HCU.q1.mono ?_;rintro e w3 ⟨A3,c3,rfl,k1,k2⟩;have H3:=dt k1 k2;clear k1 k2)
          have hD:Sn S w at_ alive f m C (G A2 nm.length c2) nm (G A3 vs.length c3) vs 0 f m w3:=
           ⟨HN.q2.below HH.q1 H3.t1,aw (aq HN.q8 H3.t1),λ _ _=>rfl,ah _,ar,HN.q1.below H3.t1 (ak _),H3.q1.weaken HN.q8.size,λ c hc=>by rw[List.take_zero] at hc;cases hc⟩
          have HV:=aG hD;have HNM:=aG HN.t6;have HG:=dt HN.q4 HN.q5;have UY:=aG HCU.t1;clear hD H3 HN q3 l3 HCU;go_wp2_with fail;go_loopw [68] (λ i wr=>∃(j:Nat) (f':Fc) (m':Nat),j<=vs.length/\i=I J j/\Sn S w at_ alive f m C (G A2 nm.length c2) nm (G A3 vs.length c3) vs j f' m' wr) (λ i _=>vs.length - (intOf i).toNat)
          case atStart=>exact⟨0,f,m,ak _,rfl,HV.o⟩
          case round=>
           clear HV;clear w3;obtain⟨j,f',m',hj,rfl,hN⟩:=hrel;generalize wr=wA at *;by_cases hlt:j<vs.length
           · as_aux_lemma=>
             have rE:(j:Int)<(vs.length:Int):=ar;obtain⟨b1,o1,v,rfl,hb1,_,Hv,dv,fv1,fv2⟩:=(hN.abV.elems (ak _) (ah _)).fC hlt;have df:=hN.ok.fact Wm;have ff:=hN.ok.k9.free at_;have lf:=hN.ok.k9.lt;have hvm:=UY.q4 v (az Hv.o);have gU:=hN.ok.Qe HH.q1 Wm (v:=v) ⟨fv1,fv2⟩;have h9w:=(IG HH.q2).1;have xZ:Only (λ g=>g=S.b9) wA (wA.setCell ⟨S.b9,at_,U⟩ (I J v)):=(Only.refl (λ g=>g=S.b9) wA).aS (p:=⟨S.b9,at_,U⟩) (.inl rfl) _;have rW:=hN.Yz.only xZ (λ _ _=>ak _) (ak _) (λ g hg e=>by have :=(hN.Yz.lt g hg).1;omega);have Gm:=hN.abV.only xZ (λ _ _=>ak _) (ak _) (λ g hg e=>by have :=(hN.abV.lt g hg).1;omega);have sW:Only (λ g=>g=S.b9\/g=S.mb) w (wA.setCell ⟨b9,at_,U⟩ (I J v)):=hN.only.aS (p:=⟨b9,at_,U⟩) (.inl (.inl HB.q4.symm)) _;rw[HB.q4] at df ff lf gU rW Gm;have HM:=yJ hN.same hN.m1 hN.m2 hvm hN.ok.fl hN.agC Hv.o;have HY:=iM gU rW Gm sW;have HJ:=aG hlt;clear hN Hv hvm gU xZ rW Gm sW h9w;go_upto_region 21 with fail;refine forget (λ V=>S.ok (f'.set at_ v) m' V/\cH Q5 5 V w.heap.size 0 (G A2 nm.length c2) nm/\cH dr 3 V w.heap.size 0 (G (O ⟨b1,o1,U⟩) vs.length c3) vs/\Only (λ g=>g=S.b9\/g=S.mb) w V) HY.o ?_;clear HY df ff lf dv hb1;rintro V ⟨gU,rW,Gm,sW⟩;have hAV:=HH.q3.Oj iP sW (λ g off e=>by have :=HH.q4 g off e;rintro(h|h)<;>omega);have HV:=lQ gU rW Gm sW hAV;clear gU rW Gm sW hAV;go_wp2_with fail;go_loopw [18,77] (λ sl i wr=>∃(i2:Nat) (A:dB) (c:Nat),i2<=alive.length/\i=I J i2/\sl=G A (gg S.E.Z at_ (alive.take i2) v).length c/\cH dr 3 wr V.heap.size 0 (G A (gg S.E.Z at_ (alive.take i2) v).length c) (cV (gg S.E.Z at_ (alive.take i2) v))/\aZ V wr) (λ _ i _=>alive.length - (intOf i).toNat)
             case atStart=>exact⟨0,U,0,ak _,rfl,rfl,cH.nil,aA _ _⟩
             case round=>
              obtain⟨i2,A4,c4,Jg,rfl,rfl,hown,bI⟩:=hrel;generalize wr=wB at *;by_cases Ij:i2<alive.length
              · as_aux_lemma=>
                have hil:(i2:Int)<(alive.length:Int):=ar;obtain⟨bL,oL,x,rfl,Ge,_,Hx,dL,_,_⟩:=(HV.t4.keep bI bI.size).fC (k:=i2) (by rw[dy];exact Ij);obtain⟨z,hz,rfl⟩:=uC Hx.o;have hzl:=HH.q6 z (az hz);have UZ:=HV.q1.below HH.q1 bI;obtain⟨_,k1,k2⟩:=Fe.cells HH.q1.e UZ.old;obtain⟨bZ,oZ,y,Rn,Qi,Hy,UU,_,Hyc⟩:=Fe.pick HH.q1.e UZ.old hzl;have hyE:=S.E.zat Hy.o;have d1:wB.cell? ⟨bZ,oZ+z*21+1+at_*2,U⟩=O (I J (atR y.2 at_).1):=by rw[fu];exact Hyc.o _ _ (iC (by rw[UU];omega)).1
                have d2:wB.cell? ⟨bZ,oZ+z*21+1+at_*2+1,U⟩=O (I J (atR y.2 at_).2):=by rw[fu,fu];exact Hyc.o _ _ (iC (by rw[UU];omega)).2
                have hstep:=DO (Z:=S.E.Z) (a:=at_) (c:=v) hz;rw[hyE.1] at hstep;have lY:r8 (atR y.2 at_) v=(decide ((atR y.2 at_).1<=v)&&decide (v<=(atR y.2 at_).2)):=rfl;rw[lY] at hstep;obtain⟨r1,hr1⟩:∃x,(atR y.2 at_).1=x:=⟨_,rfl⟩;obtain⟨r3,hr3⟩:∃x,(atR y.2 at_).2=x:=⟨_,rfl⟩;rw[hr1] at d1 hstep;rw[hr3] at d2 hstep;obtain⟨q3,l3⟩:=UZ.k3.cl0;rw[HB.q2] at q3 l3;rw[UY.q6] at q3 k1 k2;obtain⟨nZ,UO⟩:∃y,S.E.ZR.length=y:=⟨_,rfl⟩;obtain⟨cZ,UQ⟩:∃y,S.E.cZ=y:=⟨_,rfl⟩;rw[Rn,UO,UQ] at k1;rw[UO] at hzl;have hzI:(z:Int)<(nZ:Int):=ar;have hzf:fits (z:Int):=by have h1:=HH.q6 z (az hz);have h2:=HH.q1.e.wL;unfold fits;omega
                have MC:(gg S.E.Z at_ (alive.take i2) v).length<=100000:=by
                 unfold gg;have h1:=ei (λ z=>r8 (atR (dK S.E.Z z) at_) v) (alive.take i2);have h2:(alive.take i2).length<=alive.length:=by rw[dh];omega
                 omega
                obtain⟨nx,yR⟩:∃nx,gg S.E.Z at_ (alive.take i2) v=nx:=⟨_,rfl⟩;rw[yR] at hstep hown MC⊢;have hsz:=bI.size;have HA:=uF hown bI hstep MC hzf hsz;have HJ2:=aG Ij;have bLl:bL<wB.heap.size:=Ge;have bZl:bZ<wB.heap.size:=Qi;clear hown bI hstep Rn Hy Hyc hyE hr1 hr3 UO UQ yR Hx hz UZ lY MC hzf hsz Ge Qi;by_cases p1:r1<=v
                · by_cases p2:v<=r3
                  · as_aux_lemma=>
                    go_wp2_with (at_builtin;go_loud (refine gM rfl _ _ rfl A4 _ c4 rfl (cV nx) (dy nx) (HA.q1.below dE (ak _)) _ rfl (z:Int) (au _ _ _ _ bY) HA.q5 (by rw[dy];have :=HA.q4;omega) (by have :=HA.t5;simp;omega) ?_);intro A9 c9 w9 iO kH kT;have H9:=dt iO kH;clear iO kH kT);go_roundw
                    case rel=>
                     have e:gg S.E.Z at_ (alive.take (i2+1)) v=nx++[z]:=by rw[HA.q3];simp[p1,p2]
                     have e2:cV (nx++[z])=cV nx++[(z:Int)]:=by simp[cV]
                     have kY:=HA.q2;exact⟨i2+1,A9,c9,HJ2.o,gC,by rw[e];simp,by rw[e,e2];simpa using H9.q1,(show aZ V _ from dE).trans (H9.t1.aK (λ g hg=>(HA.q1.lt g hg).1) (by have :=HA.t5;simp;omega))⟩
                    case measure=>have :=HJ2.o;simp[intOf];omega
                  · as_aux_lemma=>
                    have HP2:=aG p2;go_wp2_with fail;go_roundw
                    case rel=>
                     have p2':¬v<=r3:=by have :=HP2.o;omega
                     have e:gg S.E.Z at_ (alive.take (i2+1)) v=nx:=by rw[HA.q3];simp[p2']
                     have kY:=HA.q2;exact⟨i2+1,A4,c4,HJ2.o,gC,by rw[e],by rw[e];exact HA.q1.below dE (ak _),dE⟩
                    case measure=>have :=HJ2.o;simp[intOf];omega
                · as_aux_lemma=>
                  have HP1:=aG p1;go_wp2_with fail;go_roundw
                  case rel=>
                   have p1':¬r1<=v:=by have :=HP1.o;omega
                   have e:gg S.E.Z at_ (alive.take (i2+1)) v=nx:=by rw[HA.q3];simp[p1']
                   have kY:=HA.q2;exact⟨i2+1,A4,c4,HJ2.o,gC,by rw[e],by rw[e];exact HA.q1.below dE (ak _),dE⟩
                  case measure=>have :=HJ2.o;simp[intOf];omega
              · as_aux_lemma=>
                obtain rfl:i2=alive.length:=ar;rw[aX] at hown⊢;have gU:S.ok (f'.set at_ v) m' wB:=HV.q1.below HH.q1 bI;have wY:at_<f'.length:=by rw[HM.q5];exact Wm
                have KH:E7 aP (at_+1) (f'.set at_ v):=(HH.q8.congr HM.q1).set wY HM.q4;have abX:cu S.E.Z (at_+1) (f'.set at_ v)=gg S.E.Z at_ alive v:=KN (by rw[sk (g:=f) HM.q1];exact HH.q7) wY v;obtain⟨nx,yR⟩:∃nx,gg S.E.Z at_ alive v=nx:=⟨_,rfl⟩
                have abY:(∀z∈nx,z<S.E.ZR.length)/\nx.length<=100000:=by rw[<-yR];unfold gg;refine⟨λ z hz=>HH.q6 z (dY.1 hz).1,?_⟩;have h1:=ei (λ z=>r8 (atR (dK S.E.Z z) at_) v) alive;omega
                rw[yR] at hown abX⊢;have Yv:(j+1)*C<=cN*C:=gh _ (by have h1:=UY.q2.2;have h3:=HJ.o;omega);have hC2:(j+1)*C=j*C+C:=Nat.succ_mul _ _;have J0:=HH.q9;rw[UY.q1] at J0;have iF:m'+C<=10995116277760:=by have h1:=HM.q3;omega
                have u6:nx.length<=c4/\c4<=maxLen:=by
                 obtain⟨A',c',e4,h1,h2⟩:=hown.form;injection e4 with e41 e42 Yc
                 subst Yc;rw[dy] at h1;exact⟨h1,h2⟩
                have e1:10 - k'=at_+1:=ar
                have ey:=HH.t10 k' rfl nx (f'.set at_ v) m' wB A4 c4 ((at_:Int)+1) ar gU (hown.elems (ak _) (ah _)) (λ g off e=>by have h1:=(hown.lt g (by rw[e];rfl)).1;have h2:=HV.q4.size;have h3:=IG HH.q2;omega) u6 abY.2 abY.1 (by rw[e1];exact abX) (by rw[e1];exact KH) (by rw[UY.q5];exact iF)
                rw[HB.q1,HB.q2,HB.q3,HB.q4,HB.q5,HB.t5] at ey;obtain⟨Ci,l10⟩:=gU.Z6.cl0;rw[HB.t5] at Ci l10;unfold Se.self at Ci;rw[HB.q1,HB.q2,HB.q3,HB.q4,HB.q5,HB.t5] at Ci;have HC:=yJ ey Yv hC2 bI yR wY e1;clear gU wY KH abX abY Yv hC2 J0 iF u6 e1 ey bI yR hown;go_upto_if 110 with(go_at_call 98;refine HC.q1.mono ?_;rintro e w6 ⟨b,f2,m2,rfl,k1,k2,k3,k4,k5,k6,k7⟩;have H6:=yJ k1 k2 k3 k4 k5 k6 k7;clear k1 k2 k3 k4 k5 k6 k7);clear Ci l10;have afZ:Only (λ g=>g=S.b9\/g=S.mb) V w6:=(aw HC.q4).trans H6.q2
                have OC:∀i,i<at_->eO f2 i=eO f i:=λ i hi=>by rw[H6.q3 i (by have :=HC.t6;omega),qM HC.q6,if_neg ar];exact HM.q1 i hi
                have af0:m<=m2/\m2<=m+(j+1)*C:=by have h1:=HM.q2;have h2:=HM.q3;have h3:=H6.q4;have h4:=H6.q5;rw[UY.q5] at h4;have h5:=HC.q3;omega
                have HE:=fH afZ OC af0;clear afZ OC af0;cases b with
                |true=>
                 as_aux_lemma=>
                 go_wp2_with fail;go_ret;refine⟨true,f2,m2,rfl,H6.q1,HV.q4.trans HE.q1,λ i hi=>HE.q2 i (by have :=HC.t6;omega),HE.q3,?_,λ _=>H6.q6 (by trivial),λ e=>by cases e⟩;rw[UY.q1];have h1:=HE.t3;have h2:=HC.q2;omega
                |false=>
                 as_aux_lemma=>
                 have h9w:=IG HH.q2;have hVw:=HV.q4.size
                 have hS:Sn S w at_ alive f m C (G A2 nm.length c2) nm (G (O ⟨b1,o1,U⟩) vs.length c3) vs (j+1) f2 m2 w6:=by
                  refine⟨H6.q1,HV.q4.trans HE.q1,HE.q2,HE.q3,HE.t3,HV.q2.only HE.q1 (λ _ _=>ak _) (ak _) (λ g hg hq=>?_),HV.q3.only HE.q1 (λ _ _=>ak _) (ak _) (λ g hg hq=>?_),λ c hc=>?_⟩
                  · have h1:=(HV.q2.lt g hg).1
                    omega
                  · have h1:=(HV.q3.lt g hg).1
                    omega
                  · rw[bu,HM.t6] at hc
                    rcases bV.1 hc with hc|hc
                    · exact HM.q6 c hc
                    · have hcv:c=v:=by simpa using hc
                      rw[hcv,HC.q5];have h7:=H6.t6 rfl;rw[HC.t6] at h7;exact h7
                 have HS:=aG hS;clear hS h9w hVw;go_wp2_with fail;go_roundw
                 case rel=>exact⟨j+1,f2,m2,HJ.o,gC,HS.o⟩
                 case measure=>have :=HJ.o;simp[intOf];omega
           · as_aux_lemma=>
             obtain rfl:j=vs.length:=ar;have df:=hN.ok.fact Wm;have ff:=hN.ok.k9.free at_;have lf:=hN.ok.k9.lt;have h9w:=IG HH.q2;have gU:=hN.ok.Qe HH.q1 Wm (v:=0) (by unfold fits;omega);have xZ:Only (λ g=>g=S.b9) wA (wA.setCell ⟨S.b9,at_,U⟩ (I J 0)):=(Only.refl (λ g=>g=S.b9) wA).aS (p:=⟨S.b9,at_,U⟩) (.inl rfl) _;have rW:=hN.Yz.only xZ (λ _ _=>ak _) (ak _) (λ g hg e=>by have :=(hN.Yz.lt g hg).1;omega);have sW:Only (λ g=>g=S.b9\/g=S.mb) w (wA.setCell ⟨b9,at_,U⟩ (I J 0)):=hN.only.aS (p:=⟨b9,at_,U⟩) (.inl (.inl HB.q4.symm)) _;have hno:¬lS S.E.Z aP S.E.aap S.need S.W at_ alive:=UY.q3 (λ c hc=>hN.agC c (by rw[aX];exact hc));have wY:at_<f'.length:=by rw[hN.ok.fl];exact Wm
             rw[HB.q4] at df ff lf gU rW;have HY:=fH gU rW sW;have HM:=lQ hN.same hN.m1 hN.m2 hno wY;clear hN gU xZ rW sW hno wY h9w;go_upto_region 33 with fail;refine forget (λ V=>S.ok (f'.set at_ 0) m' V/\cH Q5 5 V w.heap.size 0 (G A2 nm.length c2) nm/\Only (λ g=>g=S.b9\/g=S.mb) w V) HY.o ?_;clear HY df ff lf;rintro V ⟨gU,rW,sW⟩;have af1:0<nm.length:=by rw[<-HNM.q1,zM];omega
             have hcv:=KM rW af1;obtain⟨g1,EK,UX⟩:=gU.map;obtain⟨q8,l8⟩:=gU.k8.cl0;rw[HB.q5] at q8 l8;have J0:=HH.q9;rw[UY.q1] at J0;have Yv:vs.length*C<=cN*C:=gh _ UY.q2.2;have qf:m'<=m+cN*C/\m'<=10995116277760:=by have h1:=HM.q3;omega
             have HV:=lQ gU sW EK UX qf;clear gU rW sW EK UX qf J0 Yv af1;go_wp2_with (at_mapUpdate;refine lT (m:=m') (f:=g1) rfl _ _ _ _ rfl 9 4 lV mE dW Dt (by have :=HV.t5;unfold maxLen;omega) rfl HV.q3 _ (strOfNums nm) rfl HG.t1 true gC ?_;intro w7 EX py;have H7:=dt EX py;clear EX py);go_ret;have gU:=HV.q1;have py:=H7.t1;have hn:=HH.q1.n9 S.mb (.inr rfl);refine⟨false,f'.set at_ 0,_,rfl,⟨gU.old.trans (py.aK (λ g hg=>by rw[hg];exact HH.q1.gm) gU.old.size),gU.k4.only py (λ e=>hn.1 e.symm),gU.k3.only py (λ e=>hn.2.1 e.symm),gU.k5.only py (λ e=>hn.2.2.1 e.symm),gU.k9.only py HH.q1.nm,gU.k8.only py (λ e=>hn.2.2.2.1 e.symm),gU.Z6.only py (λ e=>hn.2.2.2.2 e.symm),gU.fl,gU.ff,⟨_,H7.q1,λ a al ha xY hput=>?_⟩⟩,HV.q2.trans (py.mono λ g hg=>.inr hg),λ i hi=>?_,?_,?_,λ e=>(by cases e),λ _=>?_⟩
             · by_cases he:strOfNums (ld a al)=strOfNums nm
               · have h1:=QA (Ec ha al) HNM.t2 he
                 rw[<-HNM.q1] at h1;obtain⟨e1,e2⟩:=Qz xY (λ z hz=>by have h1:=HH.q6 z hz;have h2:=HH.q1.e.wL;omega) h1;rw[e1,e2];exact HM.q4
               · rw[CC g1 true he] at hput
                 exact HV.q4 a al ha xY hput
             · rw[qM HM.t4,if_neg ar]
               exact HM.q1 i ar
             · have :=HM.q2
               split<;>omega
             · have h1:=HV.q5
               rw[UY.q1];split<;>omega
             · have h1:=HM.q4
               have e1:10 - (k'+1)=at_:=ar;rw[e1];exact h1
theorem Se.all(S:Se)(hs:S.st):∀k,k<=10->S.abU k
 |0,h=>S.afU hs 0 h (λ j hj=>ar)
 |k+1,h=>S.afU hs (k+1) h (λ j hj=>by
   obtain rfl:k=j:=ar;exact Se.all S hs k ar)
end
section
open Go.RowKit Go.Maps
attribute [local go_sem] aQ aC bW jC
def LeR(E:Fe)(need:List Nat)(W:Fc->Bool)(w:agb)(e:Ending)(w':agb):Prop:=
 ∃(b:Bool) (g:Fc),e=.returned (.tuple #[.agg (iw g),.bool b])/\aZ w w'/\g.length=10/\(∀x∈g,fits x)/\
  (b=true->ik aP g/\D9 E.aap need (cu E.Z 10 g)/\W g=true)/\(b=false->¬lS E.Z aP E.aap need W 0 (List.range E.Z.length))
theorem KP(X:agb)(g:Nat)(h:X.heap.size=g):iI ql prog 9 4 (X.alloc (.map #[] 0)) g 0 (λ _=>U):=by subst h;exact iI.new ql prog 9 4 X
theorem Ip:∀x∈f0,fits x:=λ x hx=>by unfold f0 at hx;unfold fits;simp at hx;omega
theorem Gn(E:Fe)(hs:E.st)(AN:dB)(cN:Nat)(need:List Nat)(F:FuncId)(jz:Array R)(W:Fc->Bool)(hn:cG dr E.W0 E.W0.heap.size AN (cV need))(zZ:need.length<=100)
 (Yy:∀f g,cu E.Z 10 f=cu E.Z 10 g->W f=W g)
 (want:∀X f,Below E.W0.heap.size E.W0 X->f.length=10->Calls prog F (#[.agg (iw f)]++jz) X λ e X'=>e=.returned (.bool (W f))/\aZ X X')
 (ent:∀args w,(callFunc F args).run prog w=.ok (.enter F args) w)(iF:il (cA E.Z aP) 10<=1099511627776):
 Calls prog 54 #[M (O ⟨E.sb,0,U⟩),G AN need.length cN,.func (.func F) #[] jz] E.W0 (LeR E need W E.W0):=by
 obtain⟨w,hw⟩:∃w,E.W0=w:=⟨_,rfl⟩;obtain⟨S,hS⟩:∃S:Se,S=⟨E,w.heap.size+1,w.heap.size,w.heap.size+1+1,w.heap.size+1+1+1+1+1+1,w.heap.size+1+1+1+1+1,w.heap.size+1+1+1+1+1+1+1,w.heap.size+1+1+1+1,AN,cN,need,F,jz,W⟩:=⟨_,rfl⟩
 have hst:S.st:=by
  rw[hS];refine⟨hs,hn,zZ,Yy,want,ent,?_,?_,λ g hg=>?_,?_⟩
  · rw[hw];show w.heap.size<=w.heap.size+1+1+1+1+1+1;omega
  · rw[hw];show w.heap.size<=w.heap.size+1+1+1+1;omega
  · have II:g=w.heap.size+1+1+1+1+1+1\/g=w.heap.size+1+1+1+1:=hg
    show g≠w.heap.size+1/\g≠w.heap.size/\g≠w.heap.size+1+1/\g≠w.heap.size+1+1+1+1+1/\g≠w.heap.size+1+1+1+1+1+1+1;omega
  · show w.heap.size+1+1+1+1+1+1≠w.heap.size+1+1+1+1;omega
 rw[hw];have hnz:E.ZR.length<=40000:=hs.wL;have Th:=λ X=>DZ E.ZR.length X ar;have HH:=lQ hs hst hS hw iF;have hce:=λ(X:agb) (hX:aZ w X)=>Fe.cells hs (show Below E.W0.heap.size E.W0 X by rw[hw];exact hX);have HCE:=aG hce;obtain⟨k0,k1,k2⟩:=hce w (aA _ _);obtain⟨sb,oV⟩:∃y,E.sb=y:=⟨_,rfl⟩;have HSB:=aG oV;rw[oV] at k1 k2⊢;have qf:= @run_makeMap prog;clear hs hn Yy want ent iF hst hS hw hce k0 oV;go_enter func54,ntmps54;go_upto_region 5 with fail
 have hY:S.ok f0 0 (((((((((w).alloc (D #[M (O ⟨sb,0,U⟩)] 143)).alloc (D #[G AN need.length cN] 117)).alloc (D #[.func (.func F) #[] jz] 35)).alloc (D (iw f0) 31)).alloc (.map #[] 0)).alloc (D #[.map (O (w.heap.size+1+1+1+1))] 102)).alloc (D (iw f0) 31)).alloc (D #[.func (.func 98) #[] #[M (O ⟨w.heap.size+1,0,U⟩),M (O ⟨w.heap.size,0,U⟩),M (O ⟨w.heap.size+1+1,0,U⟩),M (O ⟨w.heap.size+1+1+1+1+1+1,0,U⟩),M (O ⟨w.heap.size+1+1+1+1+1,0,U⟩),M (O ⟨w.heap.size+1+1+1+1+1+1+1,0,U⟩)]] 220))/\Bk (((((((((w).alloc (D #[M (O ⟨sb,0,U⟩)] 143)).alloc (D #[G AN need.length cN] 117)).alloc (D #[.func (.func F) #[] jz] 35)).alloc (D (iw f0) 31)).alloc (.map #[] 0)).alloc (D #[.map (O (w.heap.size+1+1+1+1))] 102)).alloc (D (iw f0) 31)).alloc (D #[.func (.func 98) #[] #[M (O ⟨w.heap.size+1,0,U⟩),M (O ⟨w.heap.size,0,U⟩),M (O ⟨w.heap.size+1+1,0,U⟩),M (O ⟨w.heap.size+1+1+1+1+1+1,0,U⟩),M (O ⟨w.heap.size+1+1+1+1+1,0,U⟩),M (O ⟨w.heap.size+1+1+1+1+1+1+1,0,U⟩)]] 220)) (w.heap.size+1+1+1) (iw f0) 31/\aZ w (((((((((w).alloc (D #[M (O ⟨sb,0,U⟩)] 143)).alloc (D #[G AN need.length cN] 117)).alloc (D #[.func (.func F) #[] jz] 35)).alloc (D (iw f0) 31)).alloc (.map #[] 0)).alloc (D #[.map (O (w.heap.size+1+1+1+1))] 102)).alloc (D (iw f0) 31)).alloc (D #[.func (.func 98) #[] #[M (O ⟨w.heap.size+1,0,U⟩),M (O ⟨w.heap.size,0,U⟩),M (O ⟨w.heap.size+1+1,0,U⟩),M (O ⟨w.heap.size+1+1+1+1+1+1,0,U⟩),M (O ⟨w.heap.size+1+1+1+1+1,0,U⟩),M (O ⟨w.heap.size+1+1+1+1+1+1+1,0,U⟩)]] 220)):=by
  have bI:aZ w (((((((((w).alloc (D #[M (O ⟨sb,0,U⟩)] 143)).alloc (D #[G AN need.length cN] 117)).alloc (D #[.func (.func F) #[] jz] 35)).alloc (D (iw f0) 31)).alloc (.map #[] 0)).alloc (D #[.map (O (w.heap.size+1+1+1+1))] 102)).alloc (D (iw f0) 31)).alloc (D #[.func (.func 98) #[] #[M (O ⟨w.heap.size+1,0,U⟩),M (O ⟨w.heap.size,0,U⟩),M (O ⟨w.heap.size+1+1,0,U⟩),M (O ⟨w.heap.size+1+1+1+1+1+1,0,U⟩),M (O ⟨w.heap.size+1+1+1+1+1,0,U⟩),M (O ⟨w.heap.size+1+1+1+1+1+1+1,0,U⟩)]] 220)):=dE;refine⟨?_,(by repeat(first|(refine au _ _ _ _ ?_;simp;done)|refine Bk.alloc ?_ _)),bI⟩;rw[HH.q3];refine⟨by show Below E.W0.heap.size E.W0 _;rw[HH.q4];exact bI,(by repeat(first|(refine au _ _ _ _ ?_;simp;done)|refine Bk.alloc ?_ _)),?_,(by repeat(first|(refine au _ _ _ _ ?_;simp;done)|refine Bk.alloc ?_ _)),(by repeat(first|(refine au _ _ _ _ ?_;simp;done)|refine Bk.alloc ?_ _)),(by repeat(first|(refine au _ _ _ _ ?_;simp;done)|refine Bk.alloc ?_ _)),(by repeat(first|(refine au _ _ _ _ ?_;simp;done)|refine Bk.alloc ?_ _)),rfl,Ip,⟨λ _=>U,?_,λ a al _ _ hg=>by cases hg⟩⟩
  · show Bk _ w.heap.size #[M (O ⟨E.sb,0,U⟩)] _
    rw[HSB.o];exact(by repeat(first|(refine au _ _ _ _ ?_;simp;done)|refine Bk.alloc ?_ _))
  · exact iI.below (KP (((((w).alloc (D #[M (O ⟨sb,0,U⟩)] 143)).alloc (D #[G AN need.length cN] 117)).alloc (D #[.func (.func F) #[] jz] 35)).alloc (D (iw f0) 31)) (w.heap.size+1+1+1+1) bY) dE
 refine forget (λ V=>S.ok f0 0 V/\Bk V (w.heap.size+1+1+1) (iw f0) 31/\aZ w V) hY ?_;clear hY k1 k2;rintro V ⟨gU,hb3,bI⟩;obtain⟨-,k1,k2⟩:=HCE.o V bI;obtain⟨q3,l3⟩:=gU.k3.cl0;rw[HH.q3] at q3 l3;have q3':∀i,V.cell? ⟨w.heap.size,i,U⟩=#[M (O ⟨E.sb,0,U⟩)][i]?:=q3;have l3':w.heap.size<V.heap.size:=l3;rw[HSB.o] at q3' k1 k2;clear q3 l3;have HV:=fH gU hb3 bI;clear gU hb3 bI;obtain⟨nz,YA⟩:∃y,E.ZR.length=y:=⟨_,rfl⟩;obtain⟨cZ,UQ⟩:∃y,E.cZ=y:=⟨_,rfl⟩;have HNZ:=aG YA;rw[YA,UQ] at k1;rw[YA] at hnz Th;clear YA UQ;go_upto_region 6 with fail;obtain⟨ab,hab⟩:∃y,V.heap.size=y:=⟨_,rfl⟩;rw[hab];refine forget (λ V=>S.ok f0 0 V/\Bk V (w.heap.size+1+1+1) (iw f0) 31/\aZ w V/\Bk V ab (pS nz 0) 3) ⟨HV.q1.below HH.q2 (aj _ _),HV.q2.alloc _,ay HV.t2 _,au _ _ _ _ hab⟩ ?_
 have arK:w.heap.size+1+1+1+1+1+1+1<ab:=by have h:=HV.q1.Z6.lt;rw[HH.q3] at h;have h':w.heap.size+1+1+1+1+1+1+1<V.heap.size:=h;omega
 clear Th qf k1 k2 q3' l3' HV hab;clear V;rintro V ⟨h1,h2,h3,h4⟩;have HV:=iM h1 h2 h3 h4;clear h1 h2 h3 h4;go_wp2_with fail;go_loopw [23] (λ i wr=>∃(k:Nat),k<=nz/\i=I J k/\S.ok f0 0 wr/\Bk wr (w.heap.size+1+1+1) (iw f0) 31/\aZ w wr/\Bk wr ab (pS nz k) 3) (λ i _=>nz - (intOf i).toNat)
 case atStart=>exact⟨0,ak _,rfl,HV.q1,HV.q2,HV.q3,HV.t3⟩
 case round=>
  clear HV;clear V;obtain⟨k,hk,rfl,h1,h2,h3,h4⟩:=hrel;generalize wr=wB at *;by_cases ME:k<nz
  · as_aux_lemma=>
    have kq:(k:Int)<(nz:Int):=ar;have c4:wB.cell? ⟨ab,k,U⟩=O (I J (if k<k then(k:Int) else 0)):=by rw[h4.cell];exact yx ME
    have l4:=h4.lt;have f4:=h4.free k;have HK:=iM h1 h2 h3 h4;have HJ:=aG ME;clear h1 h2 h3 h4;go_wp2_with fail;go_roundw
    case rel=>have ho:Only (λ g=>g=ab) wB (wB.setCell ⟨ab,k,U⟩ (I J (k:Int))):=(Only.refl (λ g=>g=ab) wB).aS (p:=⟨ab,k,U⟩) (.inl rfl) _;have hb4:=HK.t3.aS k (I J (k:Int));rw[Gi HJ.o] at hb4;refine⟨k+1,HJ.o,gC,HK.q1.only HH.q2 ho (λ g hg=>?_),HK.q2.only ho ar,HK.q3.trans (ho.aK (λ g hg=>ar) HK.q3.size),hb4⟩;rw[HH.q3];show E.W0.heap.size<=g/\g≠w.heap.size+1/\g≠w.heap.size/\g≠w.heap.size+1+1/\g≠w.heap.size+1+1+1+1+1/\g≠w.heap.size+1+1+1+1+1+1+1/\g≠w.heap.size+1+1+1+1+1+1/\g≠w.heap.size+1+1+1+1;rw[HH.q4];omega
    case measure=>have :=HJ.o;simp[intOf];omega
  · as_aux_lemma=>
    obtain rfl:k=nz:=ar
    have hall:pS k k=((cV (List.range k)).map (Value.int .i64)).toArray:=by
     unfold pS cV;congr 1
     rw[List.map_map];refine List.map_congr_left (λ i hi=>?_);rw[if_pos (bG.1 hi)];rfl
    have hSE:S.E=E:=by rw[HH.q3]
    have hSm:S.mb=w.heap.size+1+1+1+1:=by rw[HH.q3]
    have hS9:S.b9=w.heap.size+1+1+1+1+1+1:=by rw[HH.q3]
    have hSn:S.need=need/\S.W=W:=by rw[HH.q3];exact⟨rfl,rfl⟩
    have ey:=Se.all S HH.q2 10 (ah _) (List.range k) f0 0 wB (O ⟨ab,0,U⟩) k 0 rfl h1 (qK h4 hall (λ z hz=>by
     unfold cV at hz;obtain⟨i,hi,rfl⟩:=eQ.1 hz;have :=bG.1 hi;unfold fits;omega)) (λ g off e=>by
     injection e with e
     injection e with e _
     rw[hSm,hS9];omega) (by rw[eW];unfold maxLen;omega) (by rw[eW];omega) (λ z hz=>by rw[hSE,HNZ.o];exact bG.1 hz) (by show cu S.E.Z 0 f0=_;rw[tS,Fe.wL,hSE,HNZ.o]) (λ i hi=>absurd hi ar) (by rw[hSE];have :=HH.t4;omega)
    rw[eW] at ey;have e4:S.b4=w.heap.size+1:=by rw[HH.q3]
    have e3:S.b3=w.heap.size:=by rw[HH.q3]
    have e5:S.b5=w.heap.size+1+1:=by rw[HH.q3]
    have e8:S.b8=w.heap.size+1+1+1+1+1:=by rw[HH.q3]
    have Rj:S.Wl=w.heap.size+1+1+1+1+1+1+1:=by rw[HH.q3]
    rw[e4,e3,e5,hS9,e8,Rj] at ey;obtain⟨Ci,l10⟩:=h1.Z6.cl0;rw[Rj] at Ci l10;unfold Se.self at Ci;rw[e4,e3,e5,hS9,e8,Rj] at Ci;have HC:=yJ ey h2 h3 hSE hSm hS9 hSn;clear ey h1 h2 h3 h4 hall hSE hSm hS9 hSn e4 e3 e5 e8 Rj;go_upto_if 34 with(go_at_call 98;refine HC.q1.mono ?_;rintro e w6 ⟨b,f2,m2,rfl,k1,k2,k3,k4,k5,k6,k7⟩;have H6:=iM k1 k2 k6 k7;clear k1 k2 k3 k4 k5 k6 k7);clear Ci l10;have KL:aZ w w6:=by have h:=H6.q1.old;rw[HC.q4,HH.q4] at h;exact h
    have Yw:Bk w6 (w.heap.size+1+1+1) (iw f0) 31:=HC.q2.only H6.q2 (λ e=>by rw[HC.q5,HC.q6] at e;omega)
    have hg6:Bk w6 (w.heap.size+1+1+1+1+1+1) (iw f2) 31:=by have h:=H6.q1.k9;rw[HC.q6] at h;exact h
    have h26:=H6.t2;rw[HC.q4,HC.q7,HC.t7] at h26;refine forget (λ V=>aZ w V/\Bk V (w.heap.size+1+1+1) (iw f0) 31/\Bk V (w.heap.size+1+1+1+1+1+1) (iw f2) 31) ⟨KL,Yw,hg6⟩ ?_;have HX:=fH h26 H6.q1.fl H6.q1.ff;clear KL Yw hg6 h26 H6 HC;clear w6;rintro V ⟨k1,k2,k3⟩;have HV:=fH k1 k2 k3;clear k1 k2 k3;cases b with
    |false=>
     as_aux_lemma=>
     have IU:(prog.info? 31).map (·.size)=O (#[I J 0,I J 0,I J 0,I J 0,I J 0,I J 0,I J 0,I J 0,I J 0,I J 0]:Array R).size:=aV;go_upto_region 12 with fail;go_wp2_with (refine eK rfl _ _ _ rfl (w.heap.size+1+1+1) #[I J 0,I J 0,I J 0,I J 0,I J 0,I J 0,I J 0,I J 0,I J 0,I J 0] rfl rfl HV.q2 IU rfl (rB f0) ?_;intro X2 hb2 tI);refine bodyPost_ret (kB rfl rfl (jl (off:=0) (λ j u hu=>by rw[bX,hb2.cell];exact hu) iu rfl IU)) rfl ⟨false,f0,rfl,HV.q1.trans (tI.aK (λ g hg=>ar) HV.q1.size),rfl,Ip,λ e=>(by cases e),λ _=>?_⟩;have h:=HX.q1.2 (by trivial);rw[Fe.wL,HNZ.o];exact h
    |true=>
     as_aux_lemma=>
     have IU:=oW HX.q2;have hsz:(iw f0).size=(iw f2).size:=by rw[pM HX.q2];rfl
     obtain⟨aak,hD⟩:∃aak,iw f2=aak:=⟨_,rfl⟩;have hone:aak.all (·.oneCell')=true:=by rw[<-hD];exact rB f2
     have hk3:=HV.t2;rw[hD] at IU hsz hk3;have HD:=lQ hD IU hsz hone hk3;clear IU hsz hD hone hk3;go_upto_region 13 with fail
     go_wp2_with (refine dM (o:=⟨O 36,_,_,_,_,_⟩) rfl _ _ rfl (w.heap.size+1+1+1+1+1+1) 0 rfl aak _ (λ j u hu=>by rw[bX,HD.t4.cell];exact hu) iu rfl HD.q2 ?_
                  refine eK (o:=⟨U,.store 31 _ _,_,_,_,_⟩) rfl _ _ _ rfl (w.heap.size+1+1+1) aak rfl rfl HV.q2 HD.q2 HD.q3 HD.q4 ?_;intro X2 hb2 tI)
     refine bodyPost_ret (kB rfl rfl (jl (off:=0) (λ j u hu=>by rw[bX,hb2.cell];exact hu) iu rfl HD.q2)) rfl ⟨true,f2,by rw[<-HD.q1];rfl,HV.q1.trans (tI.aK (λ g hg=>ar) HV.q1.size),HX.q2,HX.t2,λ _=>HX.q1.1 (by trivial),λ e=>(by cases e)⟩
end
section
open Go.RowKit Go.Maps
attribute [local go_sem] aQ aC bW
theorem U0(w:agb)(B:Nat)(cs:List R)(x:Rl)(h:se.rd w B cs x):∀u∈cs,u.oneCell'=true:=by obtain⟨c1,r1,rfl,⟨rfl,_⟩,⟨c2,r2,rfl,⟨rfl,_⟩,⟨c3,r3,rfl,⟨AZ,zc,rfl,_,_,_⟩,⟨c4,r4,rfl,⟨rfl,_⟩,⟨c5,r5,rfl,⟨a1,b1,rfl,⟨rfl,_⟩,⟨rfl,_⟩⟩,⟨a2,b2,rfl,⟨rfl,_⟩,⟨rfl,_⟩⟩⟩⟩⟩⟩⟩:=h;intro u hu;simp only[eU,eV,aR,bH,or_false] at hu;rcases hu with rfl|rfl|rfl|rfl|rfl|rfl|rfl|rfl<;>rfl
theorem QB(A:dB)(cap n:Nat)(rs:List Rl)(w:agb)(h:ic se w A rs)(hn:rs.length=n)(h0:0<n)(hl:n<=1000):
 Calls prog 103 #[G A n cap] w λ e w'=>∃A' c,e=.returned (G A' n c)/\cH se 48 w' w.heap.size w.heap.size (G A' n c) rs/\aZ w w':=by
 obtain⟨b,off,cs,hA,-⟩:=h 0 ar;subst hA;obtain⟨css,f1,f2,f3,f4,f5⟩:=h.flat;have HF:=lQ f1 f2 f4 f5 hn;have hnil:=λ(w:agb) (a:dB) (n c n' c':Nat)=>Lib.run_eql_slice_nil (P:=prog) w 36 48 a n c n' c' rq;clear f1 f2 f3 f4 f5 h hn;go_enter func103,ntmps103;go_wp2_with (at_builtin;go_loud (refine en (T:=se) (e:=48) (base:=w.heap.size) (B:=w.heap.size) (qs:=[]) rfl _ _ 36 rfl 88 rq aV cj U0 rfl ⟨[],rfl,(λ i h1 h2=>absurd h2 bY),O6 w w.heap.size 48 8 (ah _)⟩ (O ⟨b,off,U⟩) n cap rs css rfl HF.t4 (by rw[HF.q1,HF.t4]) (λ i h1 h2=>se.keep (aj w _) (ah _) (HF.q2 i h1 h2)) (by rw[<-HF.t4];exact uJ HF.q4 (aj w _)) (by unfold maxLen;simp;omega) gW bY (ah _) ?_);intro A9 c9 w9 iO kH E2 kT;have H9:=dt iO kH;clear iO kH E2 kT);go_ret;have h:=H9.q1;have e0:([]:List Rl).length+n=n:=bY;rw[e0,eV] at h;exact⟨A9,c9,bY,h,(aj w _).trans H9.t1⟩
theorem zN{P:Program}{ops:Array Oper}{rest:List Oper}{o:Oper}{a:Act}{w:agb}{Q:lC}
 (hg:o.guard=U)(s x:Operand)(t:TypeId)(hop:o.op=Op.call {callee:=Callee.builtin Builtin.append,args:=#[s,x],argTypes:=#[t,t]})
 (e:TypeId)(i:TypeInfo)(size:Nat)(h1:P.underlying t=O (.slice e))(h2:P.info? e=O i)(h4:i.size=size)
 (b off n cap:Nat)(hs:a.eval s=G (O ⟨b,off,U⟩) n cap)
 (ad:Addr)(m c:Nat)(news:List R)(hx:a.eval x=G (O ad) m c)(hn:news.length=m*size)(hc:∀j u,news[j]?=O u->w.cell? (ad.add j)=O u)(h1c:∀u∈news,u.oneCell'=true)
 (hroom:n+m<=cap)(hspare:∀j,j<news.length->(w.cell? ⟨b,off+n*size+j,U⟩).isSome=true/\w.frozen? ⟨b,off+n*size+j,U⟩=false)
 (hK:wpList P ops Q rest (a.put o.dst (G (O ⟨b,off,U⟩) (n+m) cap)) (w.setCells b (off+n*size) news)):wpList P ops Q (o::rest) a w:=by
 have hw:Region.wanted o (yielded ops a.tmps)=true:=by simp[Region.wanted,hg]
 unfold wpList;rw[if_pos hw];refine .inl ?_;subst h4;have hrun:=run_append_room_cells (P:=P) w t o.type e i h1 h2 b off n cap ad m c news hn hc h1c hroom (λ j hj=>(hspare j hj).1) (λ j hj=>(hspare j hj).2);unfold Oper.wp;simp[execOp,hop,resolve,invoke,builtin,hs,hx,hrun,Result.andThen];exact hK
theorem rf(b:Nat):∀(vs:List R)(o:Nat)(w:agb),Only (λ g=>g=b) w (w.setCells b o vs)
 |[],_,w=>Only.refl _ w
 |v::r,o,w=>((Only.refl (λ g=>g=b) w).aS (p:=⟨b,o,U⟩) (.inl rfl) v).trans (rf b r (o+1) _)
theorem BQ{P:Program}(w:agb)(t e ty:TypeId)(z:R)(ht:P.underlying t=O (.slice e))(hv:∀w,(zeroValue e).run P w=.ok z w)(b o n c:Nat)(hn:0<n)(zs:List R)(hz:(Builtin.zeroCells z.cells n).toList=zs)(h1:∀u∈zs,u.oneCell'=true)
 (hc:∀j,j<zs.length->(w.cell? ⟨b,o+j,U⟩).isSome=true)(hf:∀j,j<zs.length->w.frozen? ⟨b,o+j,U⟩=false):
 (Builtin.clear_ #[t] ty #[G (O ⟨b,o,U⟩) n c]).run P w=.ok (.tuple #[]) (w.setCells b o zs):=by
 have hst:=run_storeCells_cells (P:=P) b o zs 0 w (by simpa using hc) (by simpa using hf) h1;simp only[Nat.add_zero] at hst;obtain⟨m,rfl⟩:∃m,n=m+1:=⟨n - 1,ar⟩;simp[Builtin.clear_,run_underlying ht,hv,hz,hst]
def U1:List R:=[I J 0,.string ⟨#[]⟩,G U 0 0,I J 0,I J 0,I J 0,I J 0,I J 0]
theorem MT(X:agb)(base B:Nat)(A:dB)(n c a:Nat)(rs:List Rl)(h:cH se 48 X base B (G A n c) rs)(hn:rs.length=n)(hB:B<=base)(ha:a<n)(hl:n<=1000):
 Calls prog 102 #[G A n c,I J (a:Nat),I J ((a:Int)+1)] X λ e X'=>∃A',e=.returned (G A' (n - 1) c)/\ic se X' A' (rs.eraseIdx a)/\Only (λ g=>(G A n c).ownBlock=O g) X X':=by
 subst hn;obtain⟨css,h1,h2,h3,h4⟩:=h;rcases h4 with⟨q,q2⟩|⟨g,cap,cur,q,hb,hk,q3,q4,q5,q6⟩
 · omega
 injection q with qa qb qc
 subst qa qc;have hk:Bk X g cur 48:=hk;have haI:(a:Int)+1<=(rs.length:Int):=ar;have hcI:(rs.length:Int)<=(c:Int):=ar;have hcm:(c:Int)<=9223372036854775807:=by unfold maxLen at q4;omega
 have hne:¬(a:Int)=(a:Int)+1:=ar;go_enter func102,ntmps102;go_upto_region 5 with fail;have kW:=aG (show Only (λ q=>O g=O q) X X.drew from(Only.refl _ _).drew);refine ed (S:=λ w'=>∃u,w'=jP (O g) X u) [([0,1,2,3,4,5],[6])] 7 aV aV (dT kW.o) ?_;(refine bT (λ K9 h9=>?_);simp only[aH,aU,aW,aa,ae];(repeat(go_big_quiet_step (fail)));refine wpQuiet_nil (h9 _ ?_);clear h9 K9)
 (refine cM (λ K9 h9=>?_);simp only[aW,aa,ae])
 obtain⟨ad,had⟩:∃ad:Addr,(if c=a+1 then⟨g,0,U⟩ else⟨g,(a+1)*8,U⟩)=ad:=⟨_,rfl⟩;have IU:(if c=a+1 then O (⟨g,0,U⟩:Addr) else O ⟨g,(a+1)*8,U⟩)=O ad:=by rw[<-had];split<;>rfl
 rw[IU];have wY:css.flatten.length=rs.length*8:=h3
 have Z7:∀q∈css,q.length=8:=λ q hq=>by obtain⟨i,hi,rfl⟩:=bo.1 hq;exact se.len (h2 i ar hi)
 have hcell:∀j u,css.flatten[j]?=O u->X.cell? ⟨g,j,U⟩=O u:=λ j u hu=>by
  rw[hk.cell];have hj:j<rs.length*8:=by have :=(ai.1 hu).1;omega
  rw[<-q6,gP,if_pos (show j<rs.length*se.n from hj)] at hu;simpa using hu
 have hone:∀u∈css.flatten,u.oneCell'=true:=λ u hu=>by obtain⟨q,hq,hu⟩:=List.mem_flatten.1 hu;obtain⟨i,hi,rfl⟩:=bo.1 hq;exact U0 _ _ _ _ (h2 i ar hi) u hu
 have hall:∀j,j<c*8->(X.cell? ⟨g,j,U⟩).isSome=true:=λ j hj=>by rw[hk.cell,cP (by rw[q5];exact hj)];rfl
 have Ac:=hk.free;obtain⟨news,hnews⟩:∃news,css.flatten.drop ((a+1)*8)=news:=⟨_,rfl⟩;have zZ:news.length=(rs.length - (a+1))*8:=by rw[<-hnews,List.length_drop,wY];omega
 have hnc:∀j u,news[j]?=O u->X.cell? ⟨g,(a+1)*8+j,U⟩=O u:=λ j u hu=>by rw[<-hnews,ju] at hu;exact hcell _ _ hu
 have hnone:∀u∈news,u.oneCell'=true:=λ u hu=>hone u (by rw[<-hnews] at hu;exact List.mem_of_mem_drop hu)
 have af4:∀j u,news[j]?=O u->X.drew.cell? (ad.add j)=O u:=λ j u hu=>by
  have rE:=(ai.1 hu).1;have hce:¬c=a+1:=λ e=>ar;rw[<-had,if_neg hce];have e:(⟨g,(a+1)*8,U⟩:Addr).add j=⟨g,(a+1)*8+j,U⟩:=by unfold Addr.add;split<;>simp_all
  rw[e];exact hnc j u hu
 obtain⟨i0,z0,Q6,hz0,hs0,_,_⟩:=kU (P:=prog) (e:=48) (size:=8) (bytes:=88) (c:=8) aV;have HC:=Wo af4 hnone hall Ac zZ hcell h2 Z7 Q6 hs0;have HN:=lQ hnews hk wY h1 q5;clear af4 hnone hall Ac zZ hcell h2 Z7 Q6 hs0 hnc hone hnews hk wY h3 q5 q6 IU had hz0;refine zN rfl _ _ 36 rfl 48 i0 8 rq HC.q9 HC.t9 g 0 a c rfl ad (rs.length - (a+1)) (c - (a+1)) news rfl HC.q5 HC.q1 HC.q2 ar (λ j hj=>⟨HC.q3 _ (by have :=HC.q5;omega),HC.q4 _⟩) ?_;show K9 _ _;go_simp;have pY:Only (λ q=>O g=O q) X (X.drew.setCells g (a*8) news):=kW.o.trans ((rf g news (a*8) X.drew).mono λ q hq=>by rw[hq]);have HO:=aG pY;refine h9 _ _ (dT HO.o) ?_;clear h9 K9 pY kW;refine bU (dF ?_);simp only[aW,aa,ae];obtain⟨n1,Mr⟩:∃n1,a+(rs.length - (a+1))=n1:=⟨_,rfl⟩;have arL:(a:Int)+((rs.length - (a+1):Nat):Int)=(n1:Int):=ar;rw[Mr];have HN1:=aG Mr;have akD:n1+1=rs.length:=ar;have arM:¬c=n1:=ar;have arN:(n1:Int)<=(rs.length:Int):=ar;have arO:rs.length - n1=1:=ar;clear Mr akD;obtain⟨Y,hYe⟩:∃Y,X.drew.setCells g (a*8) news=Y:=⟨_,rfl⟩
 have hYc:∀x,(∀h:x.block=g,x.spot=U->x.off<a*8\/a*8+news.length<=x.off)->Y.cell? x=X.cell? x:=λ x hx=>by rw[<-hYe,World.cell?_setCells_out g news (a*8) X.drew x hx];rfl
 have hYi:∀j(hj:j<news.length),Y.cell? ⟨g,a*8+j,U⟩=O news[j]:=λ j hj=>by rw[<-hYe];exact World.cell?_setCells_in g news (a*8) X.drew (λ i hi=>HC.q3 _ (by have :=HC.q5;omega)) j hj
 have hYf:∀x,Y.frozen? x=X.frozen? x:=λ x=>by rw[<-hYe,World.frozen?_setCells];rfl
 have hYs:∀j,j<8->(Y.cell? ⟨g,n1*8+j,U⟩).isSome=true:=λ j hj=>by have zZ:=HC.q5;have hN1:=HN1.o;rw[hYc _ (λ _ _=>.inr (show a*8+news.length<=n1*8+j from ar))];exact HC.q3 _ ar
 have arP:=λ ty=>BQ (P:=prog) Y 36 48 ty (.agg U1.toArray) rq (λ w=>aV) g (n1*8) 1 (c - n1) ar U1 aV cj hYs (λ j hj=>by rw[hYf];exact HC.q4 _);have hYo:Only (λ q=>O g=O q) X Y:=by rw[<-hYe];exact HO.o
 have HY:=iM hYc hYi hYs hYo;rw[hYe];clear hYc hYi hYf hYs hYo hYe;go_wp2_with fail;go_ret;have iO:Only (λ q=>q=g) Y (Y.setCells g (n1*8) U1):=rf g U1 (n1*8) Y;have hXZ:Only (λ q=>(G (O ⟨g,0,U⟩) rs.length c).ownBlock=O q) X (Y.setCells g (n1*8) U1):=(HY.t3.mono λ q hq=>hq).trans (iO.mono λ q hq=>by rw[hq]);have Mr:=HN1.o;have bI:Below B X (Y.setCells g (n1*8) U1):=hXZ.aK (λ q hq=>by(have hq':g=q:=by simpa [Value.ownBlock] using hq);omega) (by have :=HN.q2.lt;omega);refine⟨O ⟨g,0,U⟩,?_,λ i hi=>?_,hXZ⟩
 · have e:rs.length - 1=n1:=ar
   show Ending.returned (G (O ⟨g,0,U⟩) n1 c)=_;rw[e]
 · have hi':i<n1:=by rw[List.length_eraseIdx] at hi;split at hi<;>omega
   have hz1:∀off,off<n1*8->(Y.setCells g (n1*8) U1).cell? ⟨g,off,U⟩=Y.cell? ⟨g,off,U⟩:=λ off ho=>World.cell?_setCells_out g U1 (n1*8) Y _ (λ _ _=>.inl ho);have hgl:g<(Y.setCells g (n1*8) U1).heap.size:=by have :=HN.q2.lt;have :=hXZ.size;omega
   have zZ:=HC.q5;have arQ:=HN.q4;by_cases hia:i<a
   · have hir:i<rs.length:=ar
     refine⟨g,0,css[i]'ar,rfl,hgl,?_,λ j u hu=>?_⟩
     · rw[List.getElem_eraseIdx,dif_pos hia]
       exact se.keep bI (by have :=hXZ.size;have :=HN.q2.lt;omega) (HC.q7 i hir ar)
     · have hj:j<8:=by have h1:=(ai.1 hu).1;rw[HC.q8 _ (cD _)] at h1;exact h1
       show(Y.setCells g (n1*8) U1).cell? ⟨g,0+i*8+j,U⟩=O u;rw[bX,hz1 _ ar,HY.q1 _ (λ _ _=>.inl (show i*8+j<a*8 from ar))];exact HC.q6 _ _ (by rw[kO css i j (css[i]'ar) HC.q8 (af ar) hj];exact hu)
   · have hir:i+1<rs.length:=ar
     refine⟨g,0,css[i+1]'ar,rfl,hgl,?_,λ j u hu=>?_⟩
     · rw[List.getElem_eraseIdx,dif_neg hia]
       exact se.keep bI (by have :=hXZ.size;have :=HN.q2.lt;omega) (HC.q7 (i+1) hir ar)
     · have hj:j<8:=by have h1:=(ai.1 hu).1;rw[HC.q8 _ (cD _)] at h1;exact h1
       show(Y.setCells g (n1*8) U1).cell? ⟨g,0+i*8+j,U⟩=O u;have hk:(i - a)*8+j<news.length:=ar;have e1:0+i*8+j=a*8+((i - a)*8+j):=ar;rw[hz1 _ ar,e1,HY.q2 _ hk]
       have e2:news[(i - a)*8+j]?=O u:=by rw[<-HN.q1,ju];have e3:(a+1)*8+((i - a)*8+j)=(i+1)*8+j:=ar;rw[e3,kO css (i+1) j (css[i+1]'ar) HC.q8 (af ar) hj];exact hu
       rw[<-e2,af hk]
def byV(s t:JS):Array R:=kF (IK s) s.tg s.si s.lim s.price s.fn s.fd s.tn s.td s.cn s.cd s.sn s.sd s.rn s.rd (TE t)
open Classical in
noncomputable def wD(rs rs':List Rl)(f:Fc):Bool:=!decide (byV (dR f rs rs.length) (dR f rs' rs'.length)=vG (dR f rs' rs'.length))
theorem YB{rs rs':List Rl}(Hb:∀r∈rs',r∈rs){f g:Fc}(h:cu (bc rs) 10 f=cu (bc rs) 10 g):wD rs rs' f=wD rs rs' g:=by have h1:=DC h;unfold wD;rw[sR h1 rs.length (ah _),sR (λ r hr=>h1 r (Hb r hr)) rs'.length (ah _)]
open Classical in
theorem af6{rs rs':List Rl}{f:Fc}{b:Bool}(h:byV (dR f rs rs.length) (dR f rs' rs'.length)=vG (dR f rs' rs'.length)↔b=true):wD rs rs' f=!b:=by
 unfold wD;by_cases kY:b=true
 · rw[kY,decide_eq_true (h.2 kY)]
 · have Ad:b=false:=by simpa using kY
   rw[Ad,decide_eq_false (λ e=>kY (h.1 e))]
theorem Gp(a b c:Bool)(d e f g h i j k l m n o p:Int):(kF a b c d e f g h i j k l m n o p).size=16:=rfl
theorem U2(A A' AZ:dB)(cap c' cZ nZ sb c2 c5:Nat)(rs rs':List Rl)(f:Fc)(w:agb)(hb:Bk w sb (Ro A rs.length cap AZ nZ cZ) 146)(h2:Bk w c2 #[M (O ⟨sb,0,U⟩)] 143)(h5:Bk w c5 #[G A' rs'.length c'] 38)
 (hr:ic se w A rs)(Fv:ic se w A' rs')(hl:rs.length<=1000)(hl':rs'.length<=1000)(hf:f.length=10):
 Calls prog 104 #[.agg (iw f),M (O ⟨c2,0,U⟩),M (O ⟨c5,0,U⟩)] w (jL (.bool (wD rs rs' f)) w):=by
 have aG:=λ(X:agb) (hX:aZ w X)=>pO A rs cap rs.length f X X.heap.size (hr.keep hX hX.size) (ah _) rfl hl hf;have dt:=λ(X:agb) (hX:aZ w X)=>pO A' rs' c' rs'.length f X X.heap.size (Fv.keep hX hX.size) (ah _) rfl hl' hf
 have hne:=OB (IK (dR f rs rs.length)) (dR f rs rs.length).tg (dR f rs rs.length).si (dR f rs rs.length).lim (dR f rs rs.length).price (dR f rs rs.length).fn (dR f rs rs.length).fd (dR f rs rs.length).tn (dR f rs rs.length).td (dR f rs rs.length).cn (dR f rs rs.length).cd (dR f rs rs.length).sn (dR f rs rs.length).sd (dR f rs rs.length).rn (dR f rs rs.length).rd (TE (dR f rs' rs'.length))
  (IK (dR f rs' rs'.length)) (dR f rs' rs'.length).tg (dR f rs' rs'.length).si (dR f rs' rs'.length).lim (dR f rs' rs'.length).price (dR f rs' rs'.length).fn (dR f rs' rs'.length).fd (dR f rs' rs'.length).tn (dR f rs' rs'.length).td (dR f rs' rs'.length).cn (dR f rs' rs'.length).cd (dR f rs' rs'.length).sn (dR f rs' rs'.length).sd (dR f rs' rs'.length).rn (dR f rs' rs'.length).rd (TE (dR f rs' rs'.length))
 obtain⟨b,_,hne,mN⟩:=hne
 have hw:wD rs rs' f=!b:=by exact af6 mN.symm
 have e1:vG (dR f rs rs.length)=kF (IK (dR f rs rs.length)) (dR f rs rs.length).tg (dR f rs rs.length).si (dR f rs rs.length).lim (dR f rs rs.length).price (dR f rs rs.length).fn (dR f rs rs.length).fd (dR f rs rs.length).tn (dR f rs rs.length).td (dR f rs rs.length).cn (dR f rs rs.length).cd (dR f rs rs.length).sn (dR f rs rs.length).sd (dR f rs rs.length).rn (dR f rs rs.length).rd (TE (dR f rs rs.length)):=rfl;rw[e1] at aG;have e2:vG (dR f rs' rs'.length)=kF (IK (dR f rs' rs'.length)) (dR f rs' rs'.length).tg (dR f rs' rs'.length).si (dR f rs' rs'.length).lim (dR f rs' rs'.length).price (dR f rs' rs'.length).fn (dR f rs' rs'.length).fd (dR f rs' rs'.length).tn (dR f rs' rs'.length).td (dR f rs' rs'.length).cn (dR f rs' rs'.length).cd (dR f rs' rs'.length).sn (dR f rs' rs'.length).sd (dR f rs' rs'.length).rn (dR f rs' rs'.length).rd (TE (dR f rs' rs'.length)):=rfl;rw[e2] at dt;rw[hw];clear e1 e2 hw mN;generalize dR f rs rs.length=s1 at *;generalize dR f rs' rs'.length=s2 at *;generalize IK s1=o1 at *;generalize IK s2=o2 at *;generalize TE s1=y1 at *;generalize TE s2=y2 at *;obtain⟨D1,hD1⟩:∃aak,kF o1 s1.tg s1.si s1.lim s1.price s1.fn s1.fd s1.tn s1.td s1.cn s1.cd s1.sn s1.sd s1.rn s1.rd y1=aak:=⟨_,rfl⟩;obtain⟨D2,hD2⟩:∃aak,kF o2 s2.tg s2.si s2.lim s2.price s2.fn s2.fd s2.tn s2.td s2.cn s2.cd s2.sn s2.sd s2.rn s2.rd y2=aak:=⟨_,rfl⟩;obtain⟨D3,hD3⟩:∃aak,kF o1 s1.tg s1.si s1.lim s1.price s1.fn s1.fd s1.tn s1.td s1.cn s1.cd s1.sn s1.sd s1.rn s1.rd y2=aak:=⟨_,rfl⟩;have k1:D1.setIfInBounds 15 (I J y2)=D3:=by rw[<-hD1,<-hD3];rfl
 have k2:D2[15]?=O (I J y2):=by rw[<-hD2];rfl
 have k3:D1.size=16/\D2.size=16/\D3.size=16:=by rw[<-hD1,<-hD2,<-hD3];exact⟨rfl,rfl,rfl⟩
 have k4:D1.all (·.oneCell')=true/\D2.all (·.oneCell')=true:=by rw[<-hD1,<-hD2];exact⟨yr,yr⟩
 have k5:(D1[15]?).isSome=true:=by rw[cP ar];rfl
 rw[hD1] at aG;rw[hD2] at dt hne;rw[hD3] at hne;have IU:(prog.info? 63).map (·.size)=O 16:=aV;clear hD1 hD2 hD3;have HH:=adL aG dt k1 k2 k3 k4 k5 hf IU (oW hf) hb;have q0:w.cell? ⟨sb,0,U⟩=O (G A rs.length cap):=by rw[hb.cell];exact rV 0 ar
 have l0:=hb.lt;obtain⟨q2,l2⟩:=h2.cl0;obtain⟨q5,l5⟩:=h5.cl0;clear aG dt k1 k2 k3 k4 k5 hb h2 h5 hr Fv IU;go_enter func104,ntmps104;go_upto_region 1 with fail;obtain⟨fb,qI⟩:∃x,w.heap.size=x:=⟨_,rfl⟩;have hY:aZ w (w.alloc (D (iw f) 31))/\Bk (w.alloc (D (iw f) 31)) fb (iw f) 31:=⟨aj _ _,au _ _ _ _ qI⟩;rw[qI];refine forget (λ X=>aZ w X/\Bk X fb (iw f) 31) hY ?_;clear hY qI;rintro X ⟨hX,qI⟩;have q0:=(hX.cell (p:=⟨sb,0,U⟩) l0).trans q0;have q2:=λ i=>(hX.cell (p:=⟨c2,i,U⟩) l2).trans (q2 i);have q5:=λ i=>(hX.cell (p:=⟨c5,i,U⟩) l5).trans (q5 i);have hXs:=hX.size;have l0:sb<X.heap.size:=ar;have l2:c2<X.heap.size:=ar;have l5:c5<X.heap.size:=ar;have lf:=qI.lt;have HX:=dt hX qI;clear hX qI hXs;refine I5 X 11 22 [9,10] (λ _=>Cm X.heap.size (D (kF false false false 0 0 0 0 0 0 0 0 0 0 0 0 0) 63)) (aA _ _) aV aV rfl (λ _ _ _ _ h hb=>h.keep hb) ?_;apply Exists.intro
 refine⟨?_,?_,?_⟩
 · intro Y hY
   obtain⟨v,rfl⟩:=dV hY;clear hY;simp only[fU,List.take_zero];simp[og,mute]
   iterate 4 (go_big_quiet_step (fail))
   go_big_quiet_want
   refine kr _ _ rfl fb 0 rfl (iw f) _ (λ w9 qh j u hu=>by obtain⟨u9,rfl⟩:=qh;rw[aQ _ _ (bW lf),aQ _ _ lf,bX,HX.t1.cell];exact hu) iu rfl HH.Ci ?_;go_simp;go_big_quiet_on
   iterate 2 (go_big_quiet_step (first|(go_at_call 16;exact iL (HH.q1 _ (Below.jN (Below.jN HX.q1 _) _)))))
   go_big_quiet_want
   refine kr _ _ rfl fb 0 rfl (iw f) _ (λ w9 qh j u hu=>by obtain⟨u9,rfl⟩:=qh;rw[aQ _ _ (bW lf),aQ _ _ lf,bX,HX.t1.cell];exact hu) iu rfl HH.Ci ?_;go_simp;go_big_quiet_on
   repeat(go_big_quiet_step (first|(go_at_call 16;exact iL (HH.q2 _ (Below.jN (Below.jN HX.q1 _) _)))))
   exact wpQuiet_nil rfl
 · intro Y hY j hj o ho
   simp only[aR,bH,or_false] at hj;rcases hj with rfl|rfl
   all_goals
    simp only[List.getElem?_cons_succ,jH,cQ] at ho;subst ho;refine Ln hY.size ?_;go_simp;rfl
 · intro xs Y hb hR TD hlt
   obtain⟨b5,e5,g5,k5⟩:=hR 9 bY;obtain⟨b6,e6,g6,k6⟩:=hR 10 bY;have hd:=TD 9 bY 10 bY bY b5 (by rw[e5];rfl);rw[e6] at hd;have hd':b5≠b6:=λ e=>hd (by rw[e];rfl);clear TD hd hR hlt;have b5k:Bk Y b5 _ _:=k5;have b6k:Bk Y b6 _ _:=k6;have HY:=uF b5k b6k (aq HX.q1 hb) hd' g5 g6;clear k5 k6 b5k b6k hb hd';simp only[kN,dn,List.getElem?_cons_succ,jH,lH,Act.put,e5,e6,dS,iE,iD,List.drop_succ_cons,List.drop_zero];clear e5 e6
   have s1z:(prog.info? 63).map (·.size)=O D1.size/\(prog.info? 63).map (·.size)=O D2.size/\(prog.info? 63).map (·.size)=O D3.size:=by rw[HH.q5.1,HH.q5.2.1,HH.q5.2.2];exact⟨HH.q9,HH.q9,HH.q9⟩
   have HZ:=aG s1z;clear s1z;refine eK rfl _ _ _ rfl b5 D1 rfl rfl HY.q1 HZ.q1 (by rw[Gp,HH.q5.1]) HH.q6.1 ?_;intro X1 h1 o1';refine eK rfl _ _ _ rfl b6 D2 rfl rfl (HY.q2.only o1' (λ e=>HY.q4 e.symm)) HZ.q2 (by rw[Gp,HH.q5.2.1]) HH.q6.2 ?_;intro X2 h2 o2';have Z8:=HX.q1.size
   have hF:aZ w X2/\Bk X2 b5 D1 63/\Bk X2 b6 D2 63:=
    ⟨(HY.q3.trans (o1'.aK (λ g hg=>by rw[hg];have :=HY.q5;omega) HY.q3.size)).trans (o2'.aK (λ g hg=>by rw[hg];have :=HY.t5;omega) (by have :=HY.q3.size;have :=o1'.size;omega)),h1.only o2' HY.q4,h2⟩
   have HF:=aG hF;clear hF h1 o1' h2 o2' Z8;go_upto_region 2 with fail;refine forget (λ Z=>aZ w Z/\Bk Z b5 D1 63/\Bk Z b6 D2 63) HF.o ?_;clear HF;rintro Z ⟨m1,m2,m3⟩;obtain⟨v5,hv5⟩:=Option.isSome_iff_exists.1 HH.q7;have c5':Z.cell? ⟨b5,15,U⟩=O v5:=by rw[m2.cell];exact hv5
   have f5:=m2.free 15;have l5':=m2.lt;have c6':Z.cell? ⟨b6,15,U⟩=O (I J y2):=by rw[m3.cell];exact HH.q4
   have l6':=m3.lt;have xZ:=m2.aS 15 (I J y2);rw[HH.q3] at xZ;have pY:Only (λ g=>g=b5) Z (Z.setCell ⟨b5,15,U⟩ (I J y2)):=(Only.refl (λ g=>g=b5) Z).aS (p:=⟨b5,15,U⟩) (.inl rfl) _;have Z8:=HX.q1.size
   have hF:aZ w (Z.setCell ⟨b5,15,U⟩ (I J y2))/\Bk (Z.setCell ⟨b5,15,U⟩ (I J y2)) b5 D3 63/\Bk (Z.setCell ⟨b5,15,U⟩ (I J y2)) b6 D2 63:=
    ⟨m1.trans (pY.aK (λ g hg=>by rw[hg];have :=HY.q5;omega) m1.size),xZ,m3.only pY (λ e=>HY.q4 e.symm)⟩
   have HF:=aG hF;clear hF xZ pY m1 m2 m3 hv5 Z8;go_upto_region 3 with fail;refine forget (λ Z=>aZ w Z/\Bk Z b5 D3 63/\Bk Z b6 D2 63) HF.o ?_;clear HF c5' f5 l5' c6' l6';rintro Z ⟨m1,m2,m3⟩;have HF:=fH m1 m2 m3;clear m1 m2 m3
   go_wp2_with (first
    |(refine dM (o:=⟨O 19,_,_,_,_,_⟩) rfl _ _ rfl b5 0 rfl D3 _ (λ j u hu=>by rw[bX,HF.q2.cell];exact hu) gH rfl HZ.t2 ?_)
    |(refine dM (o:=⟨O 20,_,_,_,_,_⟩) rfl _ _ rfl b6 0 rfl D2 _ (λ j u hu=>by rw[bX,HF.t2.cell];exact hu) gH rfl HZ.q2 ?_))
   go_ret;exact⟨rfl,HF.q1⟩
theorem MU(A AZ:dB)(cap cZ nZ sb a:Nat)(rs:List Rl)(w:agb)(hb:Bk w sb (Ro A rs.length cap AZ nZ cZ) 146)(hr:ic se w A rs)(hl:rs.length<=1000)(ha:a<rs.length):
 Calls prog 55 #[M (O ⟨sb,0,U⟩),I J (a:Nat)] w λ e w'=>∃c2 c5 A' c',e=.returned (.func (.func 104) #[] #[M (O ⟨c2,0,U⟩),M (O ⟨c5,0,U⟩)])/\aZ w w'/\Bk w' c2 #[M (O ⟨sb,0,U⟩)] 143/\
  Bk w' c5 #[G A' (rs.eraseIdx a).length c'] 38/\ic se w' A' (rs.eraseIdx a):=by
 have Mr:(rs.eraseIdx a).length=rs.length - 1:=by rw[List.length_eraseIdx,if_pos ha]
 have mW:=λ(X:agb) (hX:aZ w X)=>QB A cap rs.length rs X (hr.keep hX hX.size) rfl ar hl;have arV:(a:Int)<=1000:=ar;have HH:=fH mW Mr hb;have q0:w.cell? ⟨sb,0,U⟩=O (G A rs.length cap):=by rw[hb.cell];exact rV 0 ar
 have l0:=hb.lt;clear mW Mr hb hr;go_enter func55,ntmps55;go_upto_region 1 with fail;obtain⟨cb,hcb⟩:∃x,w.heap.size=x:=⟨_,rfl⟩;rw[hcb];have hY:aZ w (w.alloc (D #[M (O ⟨sb,0,U⟩)] 143))/\Bk (w.alloc (D #[M (O ⟨sb,0,U⟩)] 143)) cb #[M (O ⟨sb,0,U⟩)] 143:=⟨aj _ _,au _ _ _ _ hcb⟩;refine forget (λ X=>aZ w X/\Bk X cb #[M (O ⟨sb,0,U⟩)] 143) hY ?_;clear hY;rintro X ⟨hX,hk⟩;have q0:=(hX.cell (p:=⟨sb,0,U⟩) l0).trans q0;have l0:sb<X.heap.size:=by have :=hX.size;omega
 obtain⟨qc,lc⟩:=hk.cl0;have HX:=fH hX hk hcb;clear hX hk hcb
 go_upto_region 2 with(first
  |(go_at_call 103;refine(HH.q1 X HX.q1).mono ?_;rintro e w3 ⟨A3,c3,rfl,k1,k2⟩;have H3:=dt k1 k2;clear k1 k2)
  |(go_at_call 102;refine(MT w3 X.heap.size X.heap.size A3 rs.length c3 a rs H3.q1 rfl (ah _) ha hl).mono ?_;rintro e w4 ⟨A4,rfl,k1,k2⟩;have H4:=dt k1 k2;clear k1 k2))
 have af9:aZ X w4:=H3.t1.trans (H4.t1.aK (λ g hg=>(H3.q1.lt g hg).1) H3.t1.size);have HL:=aG af9;clear af9;go_wp2_with fail;go_ret;refine⟨cb,w4.heap.size,A4,c3,rfl,ay (aq HX.q1 HL.o) _,(HX.q2.below HL.o).alloc _,?_,?_⟩
 · rw[HH.q2]
   exact au _ _ _ _ rfl
 · exact H4.q1.keep (aj _ _) bY
theorem MV(f:Fc)(w:agb)(hf:f.length=10):Calls prog 56 #[.agg (iw f)] w (jL (.bool true) w):=by rw[yq hf];go_enter func56,ntmps56;go_wp2_with fail;go_ret;exact⟨rfl,aj _ _⟩
end
section
open Go.RowKit Go.Maps
def sX(rs:List Rl)(i:Nat):List Zn:=match rs[i]? with |none=>[]|some r=>r.2.2.1
theorem yz{rs:List Rl}{i:Nat}{r:Rl}(h:rs[i]?=O r):sX rs i=r.2.2.1:=by unfold sX;rw[h]
def jA(rs:List Rl)(j:Nat):List (Nat×Zn):=(List.range j).flatMap λ i=>(sX rs i).map λ z=>(i,z)
theorem Gq(rs:List Rl)(j:Nat):jA rs (j+1)=jA rs j++(sX rs j).map λ z=>(j,z):=by unfold jA;rw[fX,eJ];simp
theorem Ed{rs:List Rl}{j:Nat}(h:j<=rs.length):(jA rs j).map (·.2)=bc (rs.take j):=by
 induction j with
 |zero=>rfl
 |succ j ih=>
  have hr:rs[j]?=O rs[j]:=af h;rw[Gq,dH,ih ar,uB hr,yz hr];congr 1
  rw[List.map_map];exact List.map_id' _
theorem Ee(rs:List Rl):(jA rs rs.length).map (·.2)=bc rs:=by rw[Ed (ah _),aX]
theorem KQ{rs:List Rl}{j:Nat}(h:j<=rs.length):(jA rs j).length<=(bc rs).length:=by have :=congrArg agh (Ed h);rw[bB] at this;rw[this];exact zL rs j
theorem KR{rs:List Rl}{x:Nat×Zn}:x∈jA rs rs.length↔∃r,rs[x.1]?=O r/\x.2∈r.2.2.1:=by
 unfold jA;rw[dP];constructor
 · rintro⟨i,hi,h⟩
   obtain⟨z,hz,rfl⟩:=eQ.1 h;have hil:=bG.1 hi;have hr:rs[i]?=O rs[i]:=af hil;rw[yz hr] at hz;exact⟨_,hr,hz⟩
 · rintro⟨r,hr,hz⟩
   exact⟨x.1,bG.2 (by have :=ai.1 hr;exact this.1),eQ.2 ⟨x.2,by rw[yz hr];exact hz,rfl⟩⟩
def Ef(rs:List Rl)(ns:List Nat)(g:Fc):Prop:=∀n∈ns,∃r,rs[n]?=O r/\oh r g=true
theorem sY(E:Fe)(rs:List Rl)(h:E.ZR=jA rs rs.length)(ns:List Nat)(g:Fc):D9 E.aap ns (cu E.Z 10 g)↔Ef rs ns g:=by
 have key:∀n,(∃z∈cu E.Z 10 g,E.aap z=n)↔∃r,rs[n]?=O r/\oh r g=true:=by
  intro n;constructor
  · rintro⟨z,hz,hn⟩
    obtain⟨h1,h2⟩:=dY.1 hz;have hzl:z<E.ZR.length:=by have :=bG.1 h1;unfold Fe.Z at this;rwa [bB] at this
    have hx:E.ZR[z]?=O E.ZR[z]:=af hzl;obtain⟨k1,k2,k3⟩:=E.zat hx;have hm:E.ZR[z]∈jA rs rs.length:=by rw[<-h];exact cD hzl
    obtain⟨r,hr,hzr⟩:=KR.1 hm;refine⟨r,by rw[<-hn,k2];exact hr,?_⟩;unfold oh;refine eD.2 ⟨_,hzr,?_⟩;rw[<-k1];exact h2
  · rintro⟨r,hr,hh⟩
    obtain⟨z,hz,hi⟩:=eD.1 hh;have hm:(n,z)∈E.ZR:=by rw[h];exact KR.2 ⟨r,hr,hz⟩
    obtain⟨k,hk,he⟩:=List.getElem_of_mem hm;have hx:E.ZR[k]?=O (n,z):=by rw[af hk,he]
    obtain⟨k1,k2,k3⟩:=E.zat hx;refine⟨k,dY.2 ⟨bG.2 (by unfold Fe.Z;rwa [bB]),?_⟩,k2⟩;show rC (dK E.Z k) g=true;rw[k1];exact hi
 unfold D9 Ef;constructor
 · intro h1 n hn;exact(key n).1 (h1 n hn)
 · intro h1 n hn;exact(key n).2 (h1 n hn)
def qN(rs:List Rl)(ns:List Nat)(W:Fc->Bool):Prop:=∃g,g.length=10/\ik aP g/\Ef rs ns g/\W g=true
theorem QC(Z:List Zn)(g:Fc):cu Z 0 g=List.range Z.length:=by unfold cu;exact List.filter_eq_self.2 λ z _=>rfl
theorem MW(E:Fe)(rs:List Rl)(h:E.ZR=jA rs rs.length)(ns:List Nat)(W:Fc->Bool):lS E.Z aP E.aap ns W 0 (List.range E.Z.length)↔qN rs ns W:=by
 unfold lS qN;constructor
 · rintro⟨g,h1,h2,_,h4,h5⟩
   exact⟨g,h1,h2,(sY E rs h ns g).1 h4,h5⟩
 · rintro⟨g,h1,h2,h4,h5⟩
   exact⟨g,h1,h2,QC _ _,(sY E rs h ns g).2 h4,h5⟩
theorem KS{E:Fe}{rs:List Rl}(h:E.ZR=jA rs rs.length){ns:List Nat}{W:Fc->Bool}{w:agb}{e:Ending}{w':agb}(hl:LeR E ns W w e w'):
 ∃(b:Bool) (g:Fc),e=.returned (.tuple #[.agg (iw g),.bool b])/\aZ w w'/\g.length=10/\(∀x∈g,fits x)/\(b=true↔qN rs ns W)/\(b=true->ik aP g/\Ef rs ns g):=by
 obtain⟨b,g,h1,h2,h3,h4,h5,h6⟩:=hl;refine⟨b,g,h1,h2,h3,h4,⟨λ hb=>?_,λ hh=>?_⟩,λ hb=>?_⟩
 · obtain⟨k1,k2,k3⟩:=h5 hb
   exact⟨g,h3,k1,(sY E rs h ns g).1 k2,k3⟩
 · cases b
   · exact absurd ((MW E rs h ns W).2 hh) (h6 rfl)
   · rfl
 · obtain⟨k1,k2,k3⟩:=h5 hb
   exact⟨k1,(sY E rs h ns g).1 k2⟩
abbrev Fd:=Int×Int×Int×Fc
abbrev EN:Ty Fd:=fy dr (fy dr (fy dr tFc))
def QD(q:Fd):Int×Int×Int:=(q.1,q.2.1,q.2.2.1)
open Classical in
noncomputable def vM(rs:List Rl)(n:Nat):Bool:=!decide (qN rs [n] (wD rs (rs.eraseIdx n)))
open Classical in
noncomputable def rX(rs:List Rl)(a b:Nat):Bool:=decide (qN rs [a,b] λ _=>true)
open Classical in
theorem MX{rs:List Rl}{n:Nat}(h:¬qN rs [n] (wD rs (rs.eraseIdx n))):vM rs n=true:=by unfold vM;rw[decide_eq_false h];rfl
open Classical in
theorem qO{rs:List Rl}{n:Nat}(h:qN rs [n] (wD rs (rs.eraseIdx n))):vM rs n=false:=by unfold vM;rw[decide_eq_true h];rfl
open Classical in
theorem U3{rs:List Rl}{a b:Nat}{c:Bool}(h:c=true↔qN rs [a,b] λ _=>true):rX rs a b=c:=by
 unfold rX;cases c
 · exact decide_eq_false λ hh=>by cases h.2 hh
 · exact decide_eq_true (h.1 rfl)
def qm(rs:List Rl)(i:Nat):Int:=match rs[i]? with |none=>0|some r=>r.1
theorem OE{rs:List Rl}{i:Nat}{r:Rl}(h:rs[i]?=O r):qm rs i=r.1:=by unfold qm;rw[h]
def rh(rs:List Rl)(j:Nat):List (Int×Int×Int):=((List.range j).filter λ n=>(sX rs n).isEmpty).map λ n=>(1,((n:Nat):Int),-1)
noncomputable def tD(rs:List Rl)(j:Nat):List (Int×Int×Int):=((List.range j).filter λ n=>!(sX rs n).isEmpty&&vM rs n).map λ n=>(2,((n:Nat):Int),-1)
noncomputable def lG(rs:List Rl)(a k:Nat):List (Int×Int×Int):=((List.range k).filter λ b=>(decide (qm rs a=1)&&decide (qm rs b=2))&&rX rs a b).map λ b=>(3,((a:Nat):Int),((b:Nat):Int))
noncomputable def vP(rs:List Rl)(j:Nat):List (Int×Int×Int):=(List.range j).flatMap λ a=>if(sX rs a).isEmpty then [] else lG rs a rs.length
def abZ(rs:List Rl)(q:Fd):Prop:=q.2.2.2.length=10/\ik aP q.2.2.2/\∃a b:Nat,q.2.1=(a:Int)/\q.2.2.1=(b:Int)/\Ef rs [a,b] q.2.2.2
theorem AJ(rs:List Rl)(j:Nat):rh rs (j+1)=rh rs j++if(sX rs j).isEmpty then [(1,((j:Nat):Int),-1)] else []:=by
 unfold rh;rw[fX,gQ,dH];congr 1
 cases h:(sX rs j).isEmpty<;>simp[h]
theorem lW(rs:List Rl)(j:Nat):tD rs (j+1)=tD rs j++if(!(sX rs j).isEmpty&&vM rs j)=true then [(2,((j:Nat):Int),-1)] else []:=by
 unfold tD;rw[fX,gQ,dH];congr 1
 cases h:(!(sX rs j).isEmpty&&vM rs j)<;>simp[h]
theorem fW(rs:List Rl)(a k:Nat):lG rs a (k+1)=lG rs a k++if((decide (qm rs a=1)&&decide (qm rs k=2))&&rX rs a k)=true then [(3,((a:Nat):Int),((k:Nat):Int))] else []:=by
 unfold lG;rw[fX,gQ,dH];congr 1
 cases h:((decide (qm rs a=1)&&decide (qm rs k=2))&&rX rs a k)<;>simp[h]
theorem wR(rs:List Rl)(j:Nat):vP rs (j+1)=vP rs j++if(sX rs j).isEmpty then [] else lG rs j rs.length:=by unfold vP;rw[fX,eJ];simp
theorem Eg(rs:List Rl)(j:Nat):(rh rs j).length<=j:=by unfold rh;rw[bB];have :=ei (λ n=>(sX rs n).isEmpty) (List.range j);rwa [eW] at this
theorem Gs(rs:List Rl)(j:Nat):(tD rs j).length<=j:=by unfold tD;rw[bB];have :=ei (λ n=>!(sX rs n).isEmpty&&vM rs n) (List.range j);rwa [eW] at this
theorem Eh(rs:List Rl)(a k:Nat):(lG rs a k).length<=k:=by unfold lG;rw[bB];have :=ei (λ b=>(decide (qm rs a=1)&&decide (qm rs b=2))&&rX rs a b) (List.range k);rwa [eW] at this
theorem zO(rs:List Rl)(j:Nat):(vP rs j).length<=j*rs.length:=by
 induction j with
 |zero=>simp[vP]
 |succ j ih=>
  rw[wR,ax]
  have h:(if(sX rs j).isEmpty then [] else lG rs j rs.length).length<=rs.length:=by
   split
   · simp
   · exact Eh rs j rs.length
  have e:(j+1)*rs.length=j*rs.length+rs.length:=by rw[Nat.add_mul,Nat.one_mul]
  omega
def U4(rs:List Rl)(qs:List Fd):Prop:=qs.map QD=rh rs rs.length++(tD rs rs.length++vP rs rs.length)/\∀q∈qs,q.1=3->abZ rs q
end
section
def Tryz.yA:Go.Shelf.Ren:=⟨λ |4=>105|n=>n,λ |22=>69|25=>72|n=>n,λ n=>n⟩
theorem Tryz.Gt:Go.Proofs.Lays8.n4 prog Tryz.yA:={
 mixed:=aV
 f4:=⟨Tryz.f105.name,cj,func105.trans (congrArg O aV)⟩
 t0:=nH
 a0:=Tryz.isAgg0
 z0:=Tryz.sizeOf0
 v0:=Tryz.zeroValue0
 t3:=aJ
 a3:=Tryz.isAgg3
 z3:=Tryz.sizeOf3
 v3:=Tryz.zeroValue3
 t4:=dW
 a4:=Tryz.isAgg4
 z4:=Tryz.sizeOf4
 v4:=Tryz.zeroValue4
 t9:=bn
 a9:=Tryz.isAgg9
 z9:=Tryz.sizeOf9
 v9:=Tryz.zeroValue9
 t20:=vo
 a20:=Tryz.isAgg20
 z20:=Tryz.sizeOf20
 v20:=Tryz.zeroValue20
 t22:=oa
 a22:=Tryz.isAgg69
 z22:=Tryz.sizeOf69
 v22:=Tryz.zeroValue69}
open Go.RowKit Go.Maps
attribute [local go_sem] aQ aC bW
theorem Iq(w:agb)(B:Nat)(cs:List R)(x:Fd)(h:EN.rd w B cs x):∀u∈cs,u.oneCell'=true:=by
 obtain⟨c1,r1,rfl,⟨rfl,_⟩,⟨c2,r2,rfl,⟨rfl,_⟩,⟨c3,r3,rfl,⟨rfl,_⟩,⟨h1,h2,h3⟩⟩⟩⟩:=h
 have h4:∀u∈r3,u.oneCell'=true:=λ u hu=>by
  obtain⟨i,hi,rfl⟩:=bo.1 hu;have Jg:i<x.2.2.2.length:=by rw[h2];rw[h1] at hi;exact hi
  obtain⟨h5,_⟩:=h3 i Jg
  have h6:((r3.drop (i*1)).take 1)[0]?=O r3[i]:=by rw[gP];simp[hi]
  have h7:(r3.drop (i*1)).take 1=[I J x.2.2.2[i]]:=h5;rw[h7] at h6;simp at h6;rw[<-h6];rfl
 intro u hu;simp only[eU,eV,aR] at hu;rcases hu with rfl|rfl|rfl|hu
 · rfl
 · rfl
 · rfl
 · exact h4 u hu
theorem U5(n:Nat)(w:agb)(hn:n<=1000000):Calls prog 105 #[G U 0 0,I J n] w λ e w'=>∃A c,e=.returned (G A 0 c)/\cH EN 72 w' w.heap.size w.heap.size (G A 0 c) []/\aZ w w':=by
 rcases gO n with rfl|h0
 · refine(Any8.slices_Grow_room Tryz.Gt U 0 0 0 w (ah _) ar ar ar).mono ?_
   rintro e w' ⟨rfl,rfl⟩;exact⟨U,0,rfl,cH.nil,aA _ _⟩
 · obtain⟨i0,z0,Q6,hz0,hs0,hb0,T7⟩:=kU (P:=prog) (e:=72) (size:=13) (bytes:=104) (c:=13) aV
   refine(Any8.slices_Grow_grow Tryz.Gt i0 z0 Q6 hz0 ar U 0 0 n [] w (ah _) ar (by rw[hb0];omega) ar bY (λ _=>rfl) (λ a h=>by cases h)).mono ?_;rintro e w' ⟨rfl,rfl⟩;obtain⟨aaf,hG⟩:∃aaf,grownCap w (0+n) 0 (Tryz.yA.t 25)=aaf:=⟨_,rfl⟩;have h1:=grownCap_ge w (0+n) 0 (Tryz.yA.t 25);have h2:=grownCap_le_maxLen w (0+n) 0 (Tryz.yA.t 25) (by unfold maxLen;omega);rw[hG] at h1 h2⊢;refine⟨_,aaf,rfl,⟨[],rfl,(λ i h1 h2=>absurd h2 bY),bY,.inr ⟨w.heap.size,aaf,_,rfl,ah _,au _ _ _ _ rfl,bY,h2,?_,bY⟩⟩,ay (aA _ _).drew _⟩
   have hz:∀k,(Builtin.zeroCells z0.cells k).size=k*13:=λ k=>by have :=size_zeroCells z0.cells k;rw[T7] at this;exact this
   rw[Array.size_append,Array.size_append,hz,hz];show 0+_+_=aaf*13;omega
theorem KT{w:agb}{B:Nat}{A:dB}{lO:List (List Fd)}(h:cG (eF EN) w B A lO){k:Nat}(hk:k<lO.length):
 ∃b off A' qs c,A=O ⟨b,off,U⟩/\b<B/\Hid (lO[k]?=O qs)/\w.cell? ⟨b,off+k,U⟩=O (G A' qs.length c)/\Hid (cG EN w B A' qs):=by
 obtain⟨b,off,qs,cs,hA,hb,_,hx,_,⟨A',c,rfl,_,_,h5⟩,hc⟩:=h.pick hk;exact⟨b,off,A',qs,c,hA,hb,hx,by simpa [eF] using hc 0 _ rfl,h5⟩
theorem uZ{α:Type}{ls:List (List α)}{k:Nat}{x:List α}(h:ls[k]?=O x):(ls.take (k+1)).flatten=(ls.take k).flatten++x:=by rw[bu,h];simp
theorem OG{α:Type}(ls:List (List α))(k:Nat):(ls.take k).flatten.length<=ls.flatten.length:=by
 have h:ls.flatten=(ls.take k).flatten++(ls.drop k).flatten:=by rw[<-List.flatten_append,ia]
 rw[h,ax];omega
theorem MZ(A:dB)(lO:List (List Fd))(cap:Nat)(w:agb)(h:ic (eF EN) w A lO)(hl:lO.length<=1000)(hf:lO.flatten.length<=1000000):
 Calls prog 57 #[G A lO.length cap] w λ e w'=>∃A' c,e=.returned (G A' lO.flatten.length c)/\cH EN 72 w' w.heap.size w.heap.size (G A' lO.flatten.length c) lO.flatten/\aZ w w':=by
 have hle:=OG lO;have HH:=fH h hle hf;have hlI:(lO.length:Int)<=1000:=ar;clear h hle hf;go_enter func57,ntmps57;go_wp2_with fail;go_loopw [3,11] (λ s i wr=>∃j:Nat,j<=lO.length/\i=I J j/\s=I J ((lO.take j).flatten.length:Nat)/\w=wr) (λ _ i _=>lO.length - (intOf i).toNat)
 case atStart=>exact⟨0,ak _,rfl,rfl,rfl⟩
 case round=>
  obtain⟨j,hj,rfl,rfl,rfl⟩:=hrel;by_cases hlt:j<lO.length
  · as_aux_lemma=>
    have rE:(j:Int)<(lO.length:Int):=ar;obtain⟨b,off,A',qs,c,rfl,hb,Hx,e0,-⟩:=KT HH.q1 hlt;have hs:=uZ Hx.o;have k1:=HH.q2 (j+1);have k2:=HH.t2;have hs2:=congrArg agh hs;rw[ax] at hs2;obtain⟨m,hm⟩:∃m,(lO.take j).flatten.length=m:=⟨_,rfl⟩;obtain⟨aai,hM⟩:∃m,(lO.take (j+1)).flatten.length=m:=⟨_,rfl⟩;have HM:=aG hM;rw[hm,hM] at hs2;rw[hM] at k1;have hmI:(m:Int)+(qs.length:Int)<=1000000:=ar;have HS:=aG hs2;have hm0:(0:Int)<=(m:Int)+(qs.length:Int):=ar;rw[hm];clear hs hs2 k1 k2 hM hm;go_wp2_with fail;go_roundw
    case rel=>exact⟨j+1,ar,bY,by rw[HM.o,HS.o];simp,by trivial⟩
    case measure=>simp[intOf];omega
  · as_aux_lemma=>
    obtain rfl:j=lO.length:=ar;rw[aX];have hn:=HH.t2;obtain⟨n,kT⟩:∃n,lO.flatten.length=n:=⟨_,rfl⟩;rw[kT] at hn⊢;have HN:=aG kT;clear kT;go_upto_region 11 with(go_at_call 105;refine(U5 n _ ar).mono ?_;rintro e w2 ⟨A2,c2,rfl,k1,k2⟩;have H2:=dt k1 k2;clear k1 k2);go_loopw [27,6] (λ i s wr=>∃(j:Nat) (A':dB) (c':Nat),j<=lO.length/\i=I J j/\s=G A' (lO.take j).flatten.length c'/\cH EN 72 wr w.heap.size w.heap.size (G A' (lO.take j).flatten.length c') (lO.take j).flatten/\aZ w wr) (λ i _ _=>lO.length - (intOf i).toNat)
    case atStart=>exact⟨0,A2,c2,ak _,rfl,rfl,H2.q1,H2.t1⟩
    case round=>
     obtain⟨j,A',c',hj,rfl,rfl,hown,bI⟩:=hrel;generalize wr=wA at *;by_cases hlt:j<lO.length
     · as_aux_lemma=>
       have rE:(j:Int)<(lO.length:Int):=ar;obtain⟨b,off,A3,qs,c3,rfl,hb,Hx,e0,he⟩:=KT (HH.q1.keep bI bI.size) hlt;have hs:=uZ Hx.o;have k1:=HH.q2 (j+1);have k2:=HH.t2;have hs2:=congrArg agh hs;rw[ax] at hs2;obtain⟨css,f1,f2,f3,f4,f5⟩:=he.o.flat;obtain⟨os,hos⟩:∃os,(lO.take j).flatten=os:=⟨_,rfl⟩;obtain⟨ns,hns⟩:∃os,(lO.take (j+1)).flatten=os:=⟨_,rfl⟩;rw[hos] at hown hs2 hs⊢;rw[hns] at k1 hs2 hs;have HA:=yK hown bI f1 f2 f5 hs hns (show os.length+qs.length<=1000000 from ar);have hbl:b<wA.heap.size:=hb;clear hown bI f1 f2 f3 f4 f5 hs hs2 hns hos k1 k2 H2 he Hx;go_wp2_with (at_builtin;go_loud (refine en (T:=EN) (e:=72) (base:=w.heap.size) (B:=w.heap.size) (qs:=os) rfl _ _ 69 rfl 104 oa aV cj Iq rfl HA.q1 A3 qs.length c3 qs css rfl rfl HA.q3 (λ i h1 h2=>HA.q4 i h1 h2) (uJ HA.q5 (aA _ _)) (by have :=HA.t7;unfold maxLen;omega) (by have :=HA.t7;omega) HA.q2.size (ah _) ?_);intro A9 c9 w9 iO kY E2 kT;have H9:=dt iO kY;clear iO kY E2 kT);go_roundw
       case rel=>
        have h:=H9.q1;refine⟨j+1,A9,c9,ar,bY,?_,?_,HA.q2.trans H9.t1⟩
        · rw[HA.q7,HA.q6,ax]
        · rw[HA.q7,HA.q6,ax]
          exact h
       case measure=>simp[intOf];omega
     · as_aux_lemma=>obtain rfl:j=lO.length:=ar;rw[aX] at hown⊢;have HA:=dt hown bI;clear hown bI H2;go_wp2_with fail;go_ret;exact⟨A',c',rfl,HA.q1,HA.t1⟩
end
section
open Go.RowKit Go.Maps
attribute [local go_sem] aQ aC bW
section
variable{P:Program}{ops:Array Oper}{rest:List Oper}{o:Oper}{a:Act}{Q:lC}
theorem Ei{K:Act->Prop}{C:agb->Prop}(t:TypeId)(parts:Array (Nat×Operand))(ho:o.op=.build t parts)(v:R)(hr:∀w,(Instr.build t (parts.map λ(i,x)=>(i,a.eval x))).run P w=.ok v w)(h:K (a.put o.dst v)):o.quiet P a C K:=by refine⟨v,λ w hC=>?_,h⟩;unfold Oper.quietAt execOp;have :=hr w;simp only[ho,Sem.run_bind,Sem.run_pure,Result.andThen_ok,this];exact⟨rfl,rfl⟩
theorem ri{w:agb}(hgd:o.guard=U)(t:TypeId)(parts:Array (Nat×Operand))(ho:o.op=.build t parts)(v:R)(hr:∀w,(Instr.build t (parts.map λ(i,x)=>(i,a.eval x))).run P w=.ok v w)
 (h:wpList P ops Q rest (a.put o.dst v) w):wpList P ops Q (o::rest) a w:=by
 refine wpList_plain hgd λ _ hK=>?_;unfold Oper.wp execOp;have :=hr w;simp only[ho,Sem.run_bind,Sem.run_pure,Result.andThen_ok,this];exact hK _ _ h
end
theorem U6:Go.Proofs.Enters prog 104:=enters_of func104 cj rfl
theorem M0:Go.Proofs.Enters prog 56:=enters_of func56 cj rfl
def U7(k a b:Int)(g:Fc):Array R:=(([I J k,I J a,I J b]:List R)++oI g).toArray
theorem Ej{k a b:Int}{g:Fc}(hg:g.length=10):(U7 k a b g).size=13:=by unfold U7;simp[oI,hg]
theorem U8{g:Fc}(hg:g.length=10):∃a b c d e f h i j k:Int,g=[a,b,c,d,e,f,h,i,j,k]:=by
 match g,hg with
 |[a,b,c,d,e,f,h,i,j,k],_=>exact⟨a,b,c,d,e,f,h,i,j,k,rfl⟩
theorem ab1{g:Zn}(hg:g.length=10):∃a b c d e f h i j k:Rg,g=[a,b,c,d,e,f,h,i,j,k]:=by
 match g,hg with
 |[a,b,c,d,e,f,h,i,j,k],_=>exact⟨a,b,c,d,e,f,h,i,j,k,rfl⟩
theorem KU(k a b:Int){g:Fc}(hg:g.length=10)(X:agb):(Instr.build 72 #[(0,I J k),(1,I J a),(2,I J b),(3,.agg (iw g))]).run prog X=.ok (.agg (U7 k a b g)) X:=by obtain⟨a1,a2,a3,a4,a5,a6,a7,a8,a9,a10,rfl⟩:=U8 hg;kernel_rfl
theorem U9(r:Int){z:Zn}(hz:z.length=10)(X:agb):(Instr.build 148 #[(0,I J r),(1,.agg (jY z))]).run prog X=.ok (.agg ((([I J r]:List R)++fL z).toArray)) X:=by obtain⟨a1,a2,a3,a4,a5,a6,a7,a8,a9,a10,rfl⟩:=ab1 hz;kernel_rfl
theorem QE(k a b:Int)(X:agb):(Instr.build 72 #[(0,I J k),(1,I J a),(2,I J b)]).run prog X=.ok (.agg (U7 k a b f0)) X:=aV
theorem Va{k a b:Int}{g:Fc}{w:agb}{B:Nat}(hk:fits k)(ha:fits a)(hb:fits b)(hg:g.length=10)(hf:∀x∈g,fits x):EN.rd w B (U7 k a b g).toList (k,a,b,g):=by obtain⟨a1,a2,a3,a4,a5,a6,a7,a8,a9,a10,rfl⟩:=U8 hg;refine⟨[I J k],[I J a,I J b,I J a1,I J a2,I J a3,I J a4,I J a5,I J a6,I J a7,I J a8,I J a9,I J a10],rfl,⟨rfl,hk⟩,[I J a],[I J b,I J a1,I J a2,I J a3,I J a4,I J a5,I J a6,I J a7,I J a8,I J a9,I J a10],rfl,⟨rfl,ha⟩,[I J b],[I J a1,I J a2,I J a3,I J a4,I J a5,I J a6,I J a7,I J a8,I J a9,I J a10],rfl,⟨rfl,hb⟩,rfl,rfl,λ i hi=>?_⟩;have h:=hf _ (cD hi);simp only[bD,dG] at hi;rcases(ar:i=0\/i=1\/i=2\/i=3\/i=4\/i=5\/i=6\/i=7\/i=8\/i=9) with rfl|rfl|rfl|rfl|rfl|rfl|rfl|rfl|rfl|rfl<;>exact⟨rfl,h⟩
theorem YC(A:dB)(n cap:Nat)(AZ:dB)(nZ cZ:Nat)(A2:dB)(n2 c2:Nat):(Ro A n cap AZ nZ cZ).setIfInBounds 1 (G A2 n2 c2)=Ro A n cap A2 n2 c2:=rfl
theorem agc{r:Nat}{z:Zn}{w:agb}{B:Nat}(hr:r<=1000000)(hz:nM.rd w B (fL z) z):tRz.rd w B (([I J (r:Nat)]:List R)++fL z) (Yx (r,z)):=⟨[I J (r:Nat)],fL z,rfl,⟨rfl,by show fits _;unfold fits Yx;simp only;omega⟩,hz⟩
structure agE(w:agb)(A:dB)(n cap pb sb:Nat)(AZ:dB)(cZ:Nat)(zr:List (Nat×Zn))(X:agb):Prop where
 low:aZ w X
 p_:Bk X pb #[G A n cap] 38
 box:Bk X sb (Ro A n cap AZ zr.length cZ) 146
 own:cH tRz 148 X w.heap.size 0 (G AZ zr.length cZ) (zr.map Yx)
 lp:w.heap.size<=pb
 ls:w.heap.size<=sb
section
variable{w X X':agb}{A:dB}{n cap pb sb:Nat}{AZ:dB}{cZ:Nat}{zr:List (Nat×Zn)}
theorem agE.below(h:agE w A n cap pb sb AZ cZ zr X)(hb:aZ X X'):agE w A n cap pb sb AZ cZ zr X':=
 ⟨aq h.low hb,h.p_.below hb,h.box.below hb,h.own.below hb (ak _),h.lp,h.ls⟩
theorem oX{α:Type}{T:Ty α}{e:TypeId}{base B:Nat}{v:R}{qs:List α}(h:cH T e X base B v qs){g t:Nat}{C:Array R}(hb:Bk X g C t)(hne:e≠t):v.ownBlock≠O g:=λ hg=>by obtain⟨css,_,_,hown⟩:=h;obtain⟨C',hC⟩:=gN hown hg;exact hne (fK hC hb)
theorem Vb{α β:Type}{T:Ty α}{T':Ty β}{e e':TypeId}{base B base' B':Nat}{v v':R}{qs:List α}{qs':List β}(h:cH T e X base B v qs)(h':cH T' e' X base' B' v' qs')(hne:e≠e'):∀g,v.ownBlock=O g->v'.ownBlock≠O g:=λ g hg II=>by obtain⟨css,_,_,hown⟩:=h';obtain⟨C',hC⟩:=gN hown II;exact oX h hC hne hg
theorem agE.only{S:Nat->Prop}(h:agE w A n cap pb sb AZ cZ zr X)(ho:Only S X X')(hS:∀g,S g->w.heap.size<=g)(h1:¬S pb)(h2:¬S sb)(h3:∀g,(G AZ zr.length cZ).ownBlock=O g->¬S g):agE w A n cap pb sb AZ cZ zr X':=
 ⟨h.low.trans (ho.aK hS h.low.size),h.p_.only ho h1,h.box.only ho h2,h.own.only ho (λ _ _=>ak _) (ak _) h3,h.lp,h.ls⟩
theorem agE.push(h:agE w A n cap pb sb AZ cZ zr X){A2:dB}{c2:Nat}{x:Nat×Zn}(iO:cH tRz 148 X' w.heap.size 0 (G A2 (zr.length+1) c2) (zr.map Yx++[Yx x]))(hO:Only (λ g=>(G AZ zr.length cZ).ownBlock=O g) X X'):
 agE w A n cap pb sb A2 c2 (zr++[x]) (X'.setCell ⟨sb,1,U⟩ (G A2 (zr.length+1) c2)):=by
 have hp:=h.p_.only hO (oX h.own h.p_ cj);have hs:=h.box.only hO (oX h.own h.box cj);have bI:aZ w X':=h.low.trans (hO.aK (λ g hg=>(h.own.lt g hg).1) h.low.size);have hps:pb≠sb:=λ e=>absurd (fK (e▸h.p_) h.box) cj;have hne:=oX iO hs cj;have hw:Only (λ g=>g=sb) X' (X'.setCell ⟨sb,1,U⟩ (G A2 (zr.length+1) c2)):=(Only.refl (λ g=>g=sb) X').aS (p:=⟨sb,1,U⟩) (.inl rfl) _;have hl:(zr++[x]).length=zr.length+1:=bY;refine⟨bI.trans (hw.aK (λ g hg=>by rw[hg];exact h.ls) bI.size),hp.only hw hps,?_,?_,h.lp,h.ls⟩
 · have :=hs.aS 1 (G A2 (zr.length+1) c2)
   rw[YC] at this;rw[hl];exact this
 · rw[hl,dH]
   exact iO.only hw (λ _ _=>ak _) (ak _) (λ g hg e=>hne (by rw[hg,e]))
theorem agE.fe{rs:List Rl}(h:agE w A n cap pb sb AZ cZ (jA rs rs.length) X)(hv:jg rs=true):(⟨X,sb,A,n,cap,AZ,cZ,jA rs rs.length⟩:Fe).st:=by obtain⟨g1,g2,g3⟩:=nE hv;refine⟨h.box,h.own.elems (ak _) (ah _),by have :=KQ (ah rs.length);show(jA rs rs.length).length<=_;omega,λ x hx=>?_⟩;refine g1 _ ?_;rw[<-Ee];exact eQ.2 ⟨x,hx,rfl⟩
structure R3(base:Nat)(v1 v2 v3:R)(q1 q2 q3:List Fd)(X:agb):Prop where
 o1:cH EN 72 X base base v1 q1
 o2:cH EN 72 X base base v2 q2
 o3:cH EN 72 X base base v3 q3
 d12:∀g,v1.ownBlock=O g->v2.ownBlock≠O g
 d23:∀g,v2.ownBlock=O g->v3.ownBlock≠O g
 d31:∀g,v3.ownBlock=O g->v1.ownBlock≠O g
variable{base:Nat}{v1 v2 v3 v4:R}{q1 q2 q3 q4:List Fd}
theorem R3.rot(h:R3 base v1 v2 v3 q1 q2 q3 X):R3 base v2 v3 v1 q2 q3 q1 X:=⟨h.o2,h.o3,h.o1,h.d23,h.d31,h.d12⟩
theorem R3.below(h:R3 base v1 v2 v3 q1 q2 q3 X)(hb:aZ X X')(hB:base<=X.heap.size):R3 base v1 v2 v3 q1 q2 q3 X':=⟨h.o1.below hb hB,h.o2.below hb hB,h.o3.below hb hB,h.d12,h.d23,h.d31⟩
theorem R3.push(h:R3 base v1 v2 v3 q1 q2 q3 X)(hB:base<=X.heap.size)(iO:cH EN 72 X' base base v4 q4)(hO:Only (λ g=>v1.ownBlock=O g) X X')(hn:∀g,v4.ownBlock=O g->v1.ownBlock=O g\/X.heap.size<=g):R3 base v4 v2 v3 q4 q2 q3 X':=by
 refine⟨iO,h.o2.only hO (λ g hg=>(h.o1.lt g hg).1) hB (λ g hg e=>h.d12 g e hg),h.o3.only hO (λ g hg=>(h.o1.lt g hg).1) hB (λ g hg e=>h.d31 g hg e),λ g hg e=>?_,h.d23,λ g hg e=>?_⟩
 · rcases hn g hg with q|q
   · exact h.d12 g q e
   · have :=(h.o2.lt g e).2;omega
 · rcases hn g e with q|q
   · exact h.d31 g hg q
   · have :=(h.o3.lt g hg).2;omega
theorem Ek{V Z w9:agb}(hF:agE w A n cap pb sb AZ cZ zr V)(hR:R3 w.heap.size v1 v2 v3 q1 q2 q3 V)(hb:aZ V Z)(iO:cH EN 72 w9 w.heap.size w.heap.size v4 q4)(hg:Z.grownBy w9 v1.ownBlock)(hn:∀g,v4.ownBlock=O g->v1.ownBlock=O g\/Z.heap.size<=g):
 agE w A n cap pb sb AZ cZ zr w9/\R3 w.heap.size v4 v2 v3 q4 q2 q3 w9/\∀b C t,Bk V b C t->t≠72->Bk w9 b C t:=by
 have Da:=hF.below hb;have hRZ:=hR.below hb hF.low.size;have hO:Only (λ g=>v1.ownBlock=O g) Z w9:=(Only.refl _ Z).grown hg (λ g e=>.inl e);refine⟨Da.only hO (λ g hg=>(hRZ.o1.lt g hg).1) (oX hRZ.o1 Da.p_ cj) (oX hRZ.o1 Da.box cj) (Vb Da.own hRZ.o1 cj),hRZ.push Da.low.size iO hO hn,λ b C t hk ht=>?_⟩;exact(hk.below hb).only hO (oX hRZ.o1 (hk.below hb) (λ e=>ht e.symm))
theorem El{Z:agb}{A4:dB}{n4 c4:Nat}{row:Option Nat}(h:A4.map (·.block)=row\/A4.map (·.block)=O Z.heap.size):∀g,(G A4 n4 c4).ownBlock=O g->row=O g\/Z.heap.size<=g:=λ g hg=>by
 have e:A4.map (·.block)=O g:=by cases A4 with
  |none=>simp[Value.ownBlock] at hg
  |some a=>simpa [Value.ownBlock] using hg
 rcases h with q|q
 · exact .inl (q.symm.trans e)
 · right
   rw[e] at q;have :=aO q;omega
theorem M3{w:agb}{B b off:Nat}{rs:List Rl}(h:cG se w B (O ⟨b,off,U⟩) rs){k:Nat}(hk:k<rs.length):
 ∃kd nm AZ zs zc num rn rd sn sd,Hid (rs[k]?=O (kd,nm,zs,num,(rn,rd),(sn,sd)))/\b<B/\
  w.cell? ⟨b,off+k*8,U⟩=O (I J kd)/\w.cell? ⟨b,off+k*8+1,U⟩=O (.string nm)/\w.cell? ⟨b,off+k*8+2,U⟩=O (G AZ zs.length zc)/\w.cell? ⟨b,off+k*8+3,U⟩=O (I J num)/\
  w.cell? ⟨b,off+k*8+4,U⟩=O (I J rn)/\w.cell? ⟨b,off+k*8+5,U⟩=O (I J rd)/\w.cell? ⟨b,off+k*8+6,U⟩=O (I J sn)/\w.cell? ⟨b,off+k*8+7,U⟩=O (I J sd):=by
 obtain⟨b',off',kd,nm,AZ,zs,zc,num,rn,rd,sn,sd,hA,pZ,Hx,e0,e1,e2,e3,e4,e5,e6,e7,_⟩:=kA h hk;simp only[cQ,Addr.mk.injEq,and_true] at hA;obtain⟨rfl,rfl⟩:=hA;exact⟨kd,nm,AZ,zs,zc,num,rn,rd,sn,sd,Hx,pZ,e0,e1,e2,e3,e4,e5,e6,e7⟩
theorem YD{A1 A2 A3:dB}{c1 c2 c3:Nat}(hR:R3 base (G A1 q1.length c1) (G A2 q2.length c2) (G A3 q3.length c3) q1 q2 q3 X)(hB:base<=X.heap.size):
 cG (eF EN) (X.alloc (D #[G A1 q1.length c1,G A2 q2.length c2,G A3 q3.length c3] 69)) (X.alloc (D #[G A1 q1.length c1,G A2 q2.length c2,G A3 q3.length c3] 69)).heap.size (O ⟨X.heap.size,0,U⟩) [q1,q2,q3]:=by
 have one:∀{A:dB}{c:Nat}{qs:List Fd},cH EN 72 X base base (G A qs.length c) qs->(eF EN).rd (X.alloc (D #[G A1 q1.length c1,G A2 q2.length c2,G A3 q3.length c3] 69)) (X.alloc (D #[G A1 q1.length c1,G A2 q2.length c2,G A3 q3.length c3] 69)).heap.size [G A qs.length c] qs:=λ{A c qs} ho=>by
  obtain⟨A',c',e,h1,h2⟩:=ho.form;injection e with e1 e2 e3
  subst e1 e3;exact OY h1 h2 ((ho.elems hB (ah _)).keep (aj _ _) bY)
 have hc:=λ i=>(Bk.new X #[G A1 q1.length c1,G A2 q2.length c2,G A3 q3.length c3] 69).cell i;refine EF bY [[G A1 q1.length c1],[G A2 q2.length c2],[G A3 q3.length c3]] (λ i hi=>?_) (λ i j u hi hu=>?_)
 · rcases(by simp at hi;omega :i=0\/i=1\/i=2) with rfl|rfl|rfl
   · exact one hR.o1
   · exact one hR.o2
   · exact one hR.o3
 · rcases(by simp at hi;omega :i=0\/i=1\/i=2) with rfl|rfl|rfl
   all_goals
    simp only[aa,ae] at hu;obtain⟨hj,he⟩:=ai.1 hu;obtain rfl:j=0:=by simpa using hj
    simp only[List.getElem_cons_zero] at he;subst he;exact hc _
theorem sZ{qs:List Fd}{ks:List (Int×Int×Int)}(h:qs.map QD=ks):qs.length=ks.length:=by rw[<-h,bB]
theorem Gu{X:agb}{rs:List Rl}(h:agE w A n cap pb sb AZ cZ (jA rs rs.length) X)(hv:jg rs=true)(iF:il (cA (bc rs) aP) 10<=1099511627776)(AN:dB)(cN:Nat)(need:List Nat)(hn:ic dr X AN (cV need))(zZ:need.length<=100):
 Calls prog 54 #[M (O ⟨sb,0,U⟩),G AN need.length cN,.func (.func 56) #[] #[]] X λ e w'=>∃(b:Bool) (g:Fc),e=.returned (.tuple #[.agg (iw g),.bool b])/\aZ X w'/\g.length=10/\(∀x∈g,fits x)/\(b=true↔qN rs need λ _=>true)/\(b=true->ik aP g/\Ef rs need g):=by
 have hZ:Fe.Z ⟨X,sb,A,n,cap,AZ,cZ,jA rs rs.length⟩=bc rs:=Ee rs;refine(Gn ⟨X,sb,A,n,cap,AZ,cZ,jA rs rs.length⟩ (h.fe hv) AN cN need 56 #[] (λ _=>true) hn zZ (λ _ _ _=>rfl) (λ Y f hY hf=>by simpa using MV f Y hf) M0 (by rw[hZ];exact iF)).mono ?_;intro e w' hl;exact KS rfl hl
theorem QF{X:agb}{rs:List Rl}(h:agE w A rs.length cap pb sb AZ cZ (jA rs rs.length) X)(hv:jg rs=true)(iF:il (cA (bc rs) aP) 10<=1099511627776)(AN:dB)(cN:Nat)(j:Nat)(hj:j<rs.length)(hn:ic dr X AN (cV [j]))
 (c2 c5:Nat)(A':dB)(c':Nat)(h2:Bk X c2 #[M (O ⟨sb,0,U⟩)] 143)(h5:Bk X c5 #[G A' (rs.eraseIdx j).length c'] 38)(hr:ic se X A rs)(Fv:ic se X A' (rs.eraseIdx j))(hl:rs.length<=200):
 Calls prog 54 #[M (O ⟨sb,0,U⟩),G AN 1 cN,.func (.func 104) #[] #[M (O ⟨c2,0,U⟩),M (O ⟨c5,0,U⟩)]] X λ e w'=>∃(b:Bool) (g:Fc),e=.returned (.tuple #[.agg (iw g),.bool b])/\aZ X w'/\g.length=10/\(∀x∈g,fits x)/\(b=true↔qN rs [j] (wD rs (rs.eraseIdx j))):=by
 have hZ:Fe.Z ⟨X,sb,A,rs.length,cap,AZ,cZ,jA rs rs.length⟩=bc rs:=Ee rs;have Q7:(rs.eraseIdx j).length<=200:=by rw[List.length_eraseIdx,if_pos hj];omega
 refine(Gn ⟨X,sb,A,rs.length,cap,AZ,cZ,jA rs rs.length⟩ (h.fe hv) AN cN [j] 104 #[M (O ⟨c2,0,U⟩),M (O ⟨c5,0,U⟩)] (wD rs (rs.eraseIdx j)) hn bY (λ f g hfg=>YB (λ r hr=>List.mem_of_mem_eraseIdx hr) (by rw[hZ] at hfg;exact hfg)) (λ Y f hY hf=>?_) U6 (by rw[hZ];exact iF)).mono ?_
 · exact U2 A A' AZ cap c' cZ (jA rs rs.length).length sb c2 c5 rs (rs.eraseIdx j) f Y (h.box.below hY) (h2.below hY) (h5.below hY) (hr.keep hY hY.size) (Fv.keep hY hY.size) ar ar hf
 · intro e w' hl
   obtain⟨b,g,h1,h2,h3,h4,h5,_⟩:=KS (rs:=rs) rfl hl;exact⟨b,g,h1,h2,h3,h4,h5⟩
end
end
end Go.Proofs.YtbcpcneadjcmlaaGreatDoor
