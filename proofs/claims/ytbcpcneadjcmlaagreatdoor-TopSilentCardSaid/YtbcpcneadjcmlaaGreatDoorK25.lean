import Derived.Test.YtbcpcneadjcmlaaGreatDoorK12
import Derived.Test.YtbcpcneadjcmlaaGreatDoorK24
namespace Go.Proofs.YtbcpcneadjcmlaaGreatDoor
open Go.Proofs.Tryz
set_option maxRecDepth 100000
set_option maxHeartbeats 16000000
set_option linter.unusedVariables false
set_option linter.unusedSimpArgs false
open Value renaming int→I,slice→G,pointer→M
open IntKind renaming i64→J
open Obj renaming cells→D
open Option renaming some→O,none→U
open Go renaming Value→R,World→agb
open List renaming length→agh
section
open Go.RowKit Go.Maps
attribute [local go_sem] aQ aC bW fE
def agd(rs:List Rl)(w:agb)(e:Ending)(w':agb):Prop:=aZ w w'/\∃A c qs,e=.returned (G A qs.length c)/\ic EN w' A qs/\(if jg rs then U4 rs qs else qs=[])
theorem ab2(w:agb)(B:Nat)(cs:List R)(x:Int×Zn)(h:tRz.rd w B cs x):∀u∈cs,u.oneCell'=true:=by
 obtain⟨c1,r1,rfl,⟨rfl,_⟩,h2⟩:=h;intro u hu;simp only[eU,eV,aR] at hu;rcases hu with rfl|hu
 · rfl
 · exact Ul h2 u hu
theorem M4{w:agb}{B:Nat}{A:dB}{zs:List Zn}(h:cG nM w B A zs){k:Nat}(hk:k<zs.length):
 ∃b off z,A=O ⟨b,off,U⟩/\b<B/\Hid (zs[k]?=O z)/\Hid (nM.rd w B (fL z) z)/\z.length=10/\Hid (∀j u,(jY z)[j]?=O u->w.cell? ⟨b,off+k*20+j,U⟩=O u):=by
 obtain⟨b,off,z,cs,hA,hb,_,hx,_,hr,hc⟩:=h.pick hk;have hr2:=hr;obtain⟨rfl,h1,h2⟩:=mG hr;exact⟨b,off,z,hA,hb,hx,hr2,h1,λ j u hu=>hc j u (by simpa [jY] using hu)⟩
theorem YE(r:Int){z:Zn}(hz:z.length=10):((([I J r]:List R)++fL z).toArray).size=21:=by have :=n7 hz;unfold jY at this;simp at this⊢;omega
theorem ab3(w:agb)(B:Nat){z:Zn}(hz:z.length=10)(hf:∀r∈z,fits r.1/\fits r.2):nM.rd w B (fL z) z:=by
 refine⟨by rw[iy,hz];rfl,hz,λ i hi=>?_⟩;have h:=pd (af hi);have hb:=hf _ (cD hi);refine⟨[I J z[i].1],[I J z[i].2],?_,⟨rfl,hb.1⟩,⟨rfl,hb.2⟩⟩;have hl:(fL z).length=20:=by rw[iy,hz]
 apply List.ext_getElem?
 intro j;show((List.drop (i*2) (fL z)).take 2)[j]?=_;rw[gP];by_cases hj:j<2
 · rw[if_pos hj,ju]
   rcases(show j=0\/j=1 from ar) with rfl|rfl
   · exact h.1
   · exact h.2
 · rw[if_neg hj,cX gW]
theorem OH{rs:List Rl}(h:jg rs=true){j:Nat}{r:Rl}(hr:rs[j]?=O r):r.2.2.1.length<=200:=(nE h).2.1 r (az hr)
theorem Ir(A:dB)(rs:List Rl)(cap:Nat)(w:agb)(h:ic se w A rs)(hl:rs.length<=9223372036854775807)(iF:il (cA (bc rs) aP) 10<=1099511627776):
 Calls prog 19 #[.agg #[G A rs.length cap]] w (agd rs w):=by
 have hval:=λ(X:agb) (hX:aZ w X)=>uT A rs cap rs.length X X.heap.size (h.keep hX hX.size) (ah _) rfl hl;cases hv:jg rs
 · rw[hv] at hval
   have HV:=dt hval hv;clear hval hv h iF;go_enter func19,ntmps19;go_wp2_with (go_at_call 10;refine(HV.q1 _ dE).mono ?_;rintro e w2 ⟨rfl,hb⟩;have HB:=aG hb;clear hb);go_ret;refine⟨aq dE HB.o,U,0,[],rfl,cG.nil,?_⟩;rw[HV.t1];rfl
 · rw[hv] at hval
   obtain⟨gz1,gz2,gz3⟩:=nE hv;have Ku:rs.length<=200:=(sV hv).1;have BM:∀X,Calls prog 23 #[] X (jL (.agg (jY aP)) X):=nD;rw[afP] at BM;have HV:=aG hval;have HL:=aG BM;have HG:=lQ h hv iF gz2 gz3;clear hval hv h iF gz1 gz2 gz3 BM;go_enter func19,ntmps19;go_upto_region 3 with(go_at_call 10;refine(HV.o _ dE).mono ?_;rintro e w2 ⟨rfl,hb⟩;have HB:=aG hb;clear hb);have hw:aZ w w2/\Bk w2 w.heap.size #[G A rs.length cap] 38:=⟨aq dE HB.o,(au _ _ _ _ rfl).below HB.o⟩;refine forget (λ X=>aZ w X/\Bk X w.heap.size #[G A rs.length cap] 38) hw ?_;clear hw HB HV;clear w2;obtain⟨pb,oU⟩:∃p,w.heap.size=p:=⟨_,rfl⟩;have HPB:=aG oU;rintro X ⟨hX,hp⟩;rw[oU] at hp⊢;obtain⟨cp,lp⟩:=hp.cl0;have HX:=dt hX hp;clear hX hp oU;go_cut [3] (λ p X'=>∃sb,p=M (O ⟨sb,0,U⟩)/\agE w A rs.length cap pb sb U 0 [] X')
   case first =>
    have HD:=aG ((aA X.heap.size X).drew);have AG:∀X',aZ X X'->∃u,X'=ext X u:=λ X' h=>(let⟨u,e⟩:=dV h;⟨u,e.symm⟩);have kK:=aG AG;clear AG;refine ed (S:=λ w'=>∃u,w'=ext X u) [([0],[1]),([2],[3])] 4 aV aV (kK.o _ HD.o) ?_;(refine bT (λ K9 h9=>?_);simp only[aH,aU,aW,aa,ae];(repeat(go_big_quiet_step (fail)));refine wpQuiet_nil (h9 _ ?_);clear h9 K9)
    (refine cM (λ K9 h9=>?_);simp only[aW,aa,ae])
    go_wp2_with (go_at_call 23;refine(HL.o _).mono ?_;rintro e w5 ⟨rfl,mN⟩);have H5:=aG (aq HD.o mN);refine h9 _ _ (kK.o _ H5.o) ?_;clear h9 K9 mN;refine bU ?_;(refine bT (λ K9 h9=>?_);simp only[aH,aU,aW,aa,ae];(repeat(go_big_quiet_step (fail)));refine wpQuiet_nil (h9 _ ?_);clear h9 K9)
    (refine cM (λ K9 h9=>?_);simp only[aW,aa,ae])
    go_wp2_with fail;refine h9 _ _ (kK.o _ (ay H5.o _)) ?_;clear h9 K9;refine bU (dF ?_);simp only[aW,aa,ae];go_wp2_with fail;go_meet;have hb2:aZ X (w5.alloc (D (Ro A rs.length cap U 0 0) 146)):=ay H5.o _;have hw2:=HPB.o;refine⟨w5.heap.size,bY,aq HX.q1 hb2,HX.t1.below hb2,au _ _ _ _ rfl,cH.nil,ar,?_⟩;have h1:=H5.o.size;have h2:=HX.q1.size;omega
   case rest=>
    obtain⟨sb,rfl,hF⟩:=hcut;clear HL cp lp HX;clear X;obtain⟨cp,lp⟩:=hF.p_.cl0;have HF:=aG hF;have uR:(rs.length:Int)<=200:=ar;clear hF;go_wp2_with fail;go_loopw [31] (λ i wr=>∃(j:Nat) (AZ:dB) (cZ:Nat),j<=rs.length/\i=I J j/\agE w A rs.length cap pb sb AZ cZ (jA rs j) wr) (λ i _=>rs.length - (intOf i).toNat)
    case atStart=>exact⟨0,U,0,ak _,rfl,HF.o⟩
    case round=>
     clear HF cp lp;obtain⟨j,AZ,cZ,hj,rfl,hF⟩:=hrel;generalize wr=wA at *;by_cases hlt:j<rs.length
     · as_aux_lemma=>
       have rE:(j:Int)<(rs.length:Int):=ar;obtain⟨b,off,kd,nm,AR,zs,zc,num,rn,rd,sn,sd,rfl,pZ,Hx,e0,e1,e2,e3,e4,e5,e6,e7,Je,hz1,hz2,Yl,f1,f2⟩:=kA HG.q1 (k:=j) ar;have e0:=(hF.low.cell (p:=⟨b,off+j*8,U⟩) pZ).trans e0;have e1:=(hF.low.cell (p:=⟨b,off+j*8+1,U⟩) pZ).trans e1;have e2:=(hF.low.cell (p:=⟨b,off+j*8+2,U⟩) pZ).trans e2;have e3:=(hF.low.cell (p:=⟨b,off+j*8+3,U⟩) pZ).trans e3;have e4:=(hF.low.cell (p:=⟨b,off+j*8+4,U⟩) pZ).trans e4;have e5:=(hF.low.cell (p:=⟨b,off+j*8+5,U⟩) pZ).trans e5;have e6:=(hF.low.cell (p:=⟨b,off+j*8+6,U⟩) pZ).trans e6;have e7:=(hF.low.cell (p:=⟨b,off+j*8+7,U⟩) pZ).trans e7;have hbl:b<wA.heap.size:=by have :=hF.low.size;omega
       have hzl:zs.length<=200:=OH HG.q2 Hx.o;have hst:=Gq rs j;rw[yz Hx.o] at hst;have hst:jA rs (j+1)=jA rs j++zs.map λ z=>(j,z):=hst;have hle:=KQ (rs:=rs) (j:=j+1) ar;have HST:=lQ hst Yl (show(jA rs (j+1)).length<=40000 by have :=HG.t4;omega) Hx.o hF;clear hst hle Yl Je hz1 hz2 f1 f2 Hx hF;go_upto_region 7 with fail;obtain⟨rb,kS⟩:∃x,wA.heap.size=x:=⟨_,rfl⟩;rw[kS]
       have hY:agE w (O ⟨b,off,U⟩) rs.length cap pb sb AZ cZ (jA rs j) (wA.alloc (D #[I J kd,.string nm,G AR zs.length zc,I J num,I J rn,I J rd,I J sn,I J sd] 48))/\Bk (wA.alloc (D #[I J kd,.string nm,G AR zs.length zc,I J num,I J rn,I J rd,I J sn,I J sd] 48)) rb #[I J kd,.string nm,G AR zs.length zc,I J num,I J rn,I J rd,I J sn,I J sd] 48:=
        ⟨HST.t4.below (aj _ _),au _ _ _ _ kS⟩
       refine forget (λ V=>agE w (O ⟨b,off,U⟩) rs.length cap pb sb AZ cZ (jA rs j) V/\Bk V rb #[I J kd,.string nm,G AR zs.length zc,I J num,I J rn,I J rd,I J sn,I J sd] 48) hY ?_;have Xq:=iM HST.q1 HST.q2 HST.q3 HST.q4;have hjr:=hlt;clear hY HST hbl pZ e0 e1 e2 e3 e4 e5 e6 e7 kS;rintro V ⟨hF,hk⟩;obtain⟨ck,lk⟩:=hk.cl0;have HF:=aG hF;have ar1:(zs.length:Int)<=200:=ar;clear hF hk;go_wp2_with fail;go_loopw [39] (λ i wr=>∃(k:Nat) (AZ:dB) (cZ:Nat),k<=zs.length/\i=I J k/\agE w (O ⟨b,off,U⟩) rs.length cap pb sb AZ cZ (jA rs j++(zs.take k).map λ z=>(j,z)) wr) (λ i _=>zs.length - (intOf i).toNat)
       case atStart=>exact⟨0,AZ,cZ,ak _,rfl,by simpa using HF.o⟩
       case round=>
        clear HF ck lk;obtain⟨k,AZ,cZ,hk,rfl,hF⟩:=hrel;generalize wr=wB at *;by_cases hlt:k<zs.length
        · as_aux_lemma=>
          have kq:(k:Int)<(zs.length:Int):=ar;obtain⟨b2,WB,z,rfl,hb2,Hz,Hrd,uo,FM⟩:=M4 (Xq.q2.keep hF.low (ah _)) hlt;have akK:b2<wB.heap.size:=by have :=hF.low.size;omega
          have Ta:(prog.info? 90).map (·.size)=O (jY z).size:=by rw[n7 uo];kernel_rfl
          have VY:(zs.take (k+1)).map (λ z=>(j,z))=(zs.take k).map (λ z=>(j,z))++[(j,z)]:=by rw[bu,Hz.o];simp
          have hzr:(jA rs j++(zs.take k).map λ z=>(j,z)).length<40000:=by have h1:=congrArg agh Xq.q1;have h2:=Xq.q3;rw[ax,bB] at h1;rw[ax,bB,dh];omega
          obtain⟨zr,ab4⟩:∃zr,(jA rs j++(zs.take k).map λ z=>(j,z))=zr:=⟨_,rfl⟩;rw[ab4] at hF hzr;have HT:=iM VY ab4 Ta hF;clear VY ab4 Ta hF
          go_upto_region 10 with(first
           |(refine dM (o:=⟨O 42,_,_,_,_,_⟩) rfl _ _ rfl b2 (WB+k*20) rfl (jY z) _ (λ q u hu=>FM.o q u hu) iW rfl HT.q3 ?_)
           |(refine fD (o:=⟨U,.store 90 _ _,_,_,_,_⟩) rfl _ _ _ rfl (jY z) rfl rfl HT.q3 (by rw[n7 uo];rfl) (ko z) ?_;go_simp))
          obtain⟨zb,hzb⟩:∃x,wB.heap.size=x:=⟨_,rfl⟩;rw[hzb];have hY:agE w (O ⟨b,off,U⟩) rs.length cap pb sb AZ cZ zr (wB.alloc (D (jY z) 90))/\Bk (wB.alloc (D (jY z) 90)) zb (jY z) 90:=⟨HT.t3.below (aj _ _),au _ _ _ _ hzb⟩;refine forget (λ V=>agE w (O ⟨b,off,U⟩) rs.length cap pb sb AZ cZ zr V/\Bk V zb (jY z) 90) hY ?_;have E1:=iM HT.q1 HT.q2 HT.q3 (YE (j:Int) uo);have Hfz:=aG (mG Hrd.o).2.2;clear hY HT akK hb2 FM Hrd Hz hzb;rintro V ⟨hF,Yj⟩;obtain⟨cs,ls⟩:=hF.box.cl0;have lz:=Yj.lt;obtain⟨ob,oJ⟩:∃o,(G AZ zr.length cZ).ownBlock=o:=⟨_,rfl⟩;have ns:¬ob=O sb:=λ e=>oX hF.own hF.box cj (oJ.trans e);have nz:¬ob=O zb:=λ e=>oX hF.own Yj cj (oJ.trans e);have xs:∀u i,(jP ob V u).cell? ⟨sb,i,U⟩=(Ro (O ⟨b,off,U⟩) rs.length cap AZ zr.length cZ)[i]?:=λ u i=>(fE sb i ls ns).trans (cs i);have x1:∀u,(jP ob V u).cell? ⟨sb,1,U⟩=O (G AZ zr.length cZ):=λ u=>(xs u 1).trans (rV 1 ar);have hbz:=aG (λ X=>U9 (j:Int) uo X);have HF:=lQ hF Yj oJ ns nz;have kW:=aG (show Only (λ g=>ob=O g) V V.drew from(Only.refl _ _).drew);clear hF Yj cs xs oJ;refine ed (S:=λ w'=>∃u,w'=jP ob V u) [([0,1,2,3,4,5,6,7],[8,9]),([10,11],[])] 12 aV aV (dT kW.o) ?_;(refine bT (λ K9 h9=>?_);simp only[aH,aU,aW,aa,ae])
          repeat(first
           |(go_big_quiet_want;refine kr _ _ rfl zb 0 rfl (jY z) _ (λ w9 qh j u hu=>by obtain⟨u9,rfl⟩:=qh;rw[fE _ _ lz HF.t4,bX,HF.q2.cell];exact hu) iW rfl E1.q3 ?_;go_simp;go_big_quiet_on)
           |(go_big_quiet_want;refine Ei 148 _ rfl _ (λ w9=>(show _=_ from by simp only[List.map_toArray,aH,aU];exact hbz.o w9)) ?_;go_simp;go_big_quiet_on)
           |go_big_quiet_step (fail))
          refine wpQuiet_nil (h9 _ ?_);clear h9 K9;(refine cM (λ K9 h9=>?_);simp only[aW,aa,ae])
          refine jo (by rfl) _ 148 _ (by rfl) ((([I J (j:Int)]:List R)++fL z).toArray) (by rfl) underlying144 (by rw[E1.t3];kernel_rfl) (by rw[E1.t3];omega) (by rw[E1.t3];omega) (by rw[E1.t3];kernel_rfl) ?_;show K9 _ _;go_simp;refine h9 _ _ (dT (kW.o.alloc _)) ?_;clear h9 K9;(refine cM (λ K9 h9=>?_);simp only[aW,aa,ae])
          refine en (T:=tRz) (base:=w.heap.size) (B:=0) (e:=148) (qs:=zr.map Yx) (v:=G AZ zr.length cZ) rfl _ _ _ rfl 168 underlying144 aV cj ab2 rfl (HF.q1.own.below ((aA _ V).drew.alloc (ah _) _) (ak _)) (O ⟨V.heap.size,0,U⟩) 1 1 [Yx (j,z)] [([I J (j:Int)]:List R)++fL z] rfl rfl rfl (λ i h1 h2=>by obtain rfl:i=0:=(by simp at h1;omega);exact agc ar (ab3 _ _ uo Hfz.o)) (by have :=gL ((Bk.new V ((([I J (j:Int)]:List R)++fL z).toArray) 148).drew) 1;simpa using this) (by rw[bB];unfold maxLen;omega) (by rw[bB];omega) (by have :=HF.q1.low.size;simp;omega) (ak _) ?_;intro A8 c8 w8 ew eM Aj yK;rw[bB] at ew⊢;show K9 _ _;go_simp;have Am:Only (λ g=>ob=O g) V w8:=(kW.o.alloc _).grown Aj (λ g e=>.inl (HF.q3.symm.trans e));have H8:=dt ew Am;refine h9 _ _ (dT Am) ?_;clear h9 K9 ew eM Aj yK Am;refine bU ?_;(refine bT (λ K9 h9=>?_);simp only[aH,aU,aW,aa,ae];(repeat(go_big_quiet_step (fail)));refine wpQuiet_nil (h9 _ ?_);clear h9 K9)
          refine bU (dF ?_);simp only[aW,aa,ae];have EL:=HF.q1.box.only H8.t1 HF.q4;have fq8:=EL.free 1;have lq8:=EL.lt;have cq8:=EL.cell;have cq1:w8.cell? ⟨sb,1,U⟩=O (G AZ zr.length cZ):=(cq8 1).trans (rV 1 ar);clear EL cq8;go_wp2_with fail;go_roundw
          case rel=>exact⟨k+1,A8,c8,ar,gC,by rw[E1.q1,<-List.append_assoc,E1.q2];exact HF.q1.push H8.q1 (H8.t1.mono λ g e=>HF.q3.trans e)⟩
          case measure=>simp[intOf];omega
        · as_aux_lemma=>
          obtain rfl:k=zs.length:=ar;rw[aX,<-Xq.q1] at hF;have HF:=aG hF;clear hF;go_wp2_with fail;go_roundw
          case rel=>exact⟨j+1,AZ,cZ,ar,gC,HF.o⟩
          case measure=>simp[intOf];omega
     · as_aux_lemma=>
       obtain rfl:j=rs.length:=ar;obtain⟨cp,lp⟩:=hF.p_.cl0;have HF:=aG hF;clear hF;go_wp2_with fail
       go_loopw [60,8,9,10] (λ i s1 s2 s3 wr=>∃(j:Nat) (A1:dB) (c1:Nat) (A2:dB) (c2:Nat) (A3:dB) (c3:Nat) (q1 q2 q3:List Fd),j<=rs.length/\i=I J j/\s1=G A1 q1.length c1/\s2=G A2 q2.length c2/\s3=G A3 q3.length c3/\agE w A rs.length cap pb sb AZ cZ (jA rs rs.length) wr/\
        R3 w.heap.size (G A1 q1.length c1) (G A2 q2.length c2) (G A3 q3.length c3) q1 q2 q3 wr/\q1.map QD=rh rs j/\q2.map QD=tD rs j/\q3.map QD=vP rs j/\∀q∈q3,abZ rs q) (λ i _ _ _ _=>rs.length - (intOf i).toNat)
       case atStart=>exact⟨0,U,0,U,0,U,0,[],[],[],ak _,rfl,rfl,rfl,rfl,HF.o,⟨cH.nil,cH.nil,cH.nil,(λ g e=>by cases e),(λ g e=>by cases e),(λ g e=>by cases e)⟩,rfl,rfl,rfl,(λ q hq=>by cases hq)⟩
       case round=>
        clear HF cp lp;obtain⟨j,A1,c1,A2,c2,A3,c3,q1,q2,q3,hj,rfl,rfl,rfl,rfl,hF,hR,m1,m2,m3,m4⟩:=hrel;generalize wr=wA at *;by_cases hlt:j<rs.length
        · as_aux_lemma=>
          have rE:(j:Int)<(rs.length:Int):=ar;obtain⟨b,off,kd,nm,AR,zs,zc,num,rn,rd,sn,sd,rfl,pZ,Hx,e0,e1,e2,e3,e4,e5,e6,e7,Je,hz1,hz2,Yl,f1,f2⟩:=kA HG.q1 (k:=j) ar;have e0:=(hF.low.cell (p:=⟨b,off+j*8,U⟩) pZ).trans e0;have e1:=(hF.low.cell (p:=⟨b,off+j*8+1,U⟩) pZ).trans e1;have e2:=(hF.low.cell (p:=⟨b,off+j*8+2,U⟩) pZ).trans e2;have e3:=(hF.low.cell (p:=⟨b,off+j*8+3,U⟩) pZ).trans e3;have e4:=(hF.low.cell (p:=⟨b,off+j*8+4,U⟩) pZ).trans e4;have e5:=(hF.low.cell (p:=⟨b,off+j*8+5,U⟩) pZ).trans e5;have e6:=(hF.low.cell (p:=⟨b,off+j*8+6,U⟩) pZ).trans e6;have e7:=(hF.low.cell (p:=⟨b,off+j*8+7,U⟩) pZ).trans e7;have hbl:b<wA.heap.size:=by have :=hF.low.size;omega
          have hzl:zs.length<=200:=OH HG.q2 Hx.o;have hza:sX rs j=zs:=yz Hx.o;have vB:qm rs j=kd:=OE Hx.o;have b1:=sZ m1;have b2:=sZ m2;have b3:=sZ m3;have b4:=Eg rs j;have b5:=Gs rs j;have b6:=zO rs j;have b7:j*rs.length<=200*200:=et ar Ku;have N3:q1.length<=40000:=ar;have Ti:q2.length<=40000:=ar;have N4:q3.length<=40000:=ar;have HJ:=uF hza vB m1 m2 m3 m4;have HA:=dt hF hR;have hzI:(zs.length:Int)<=200:=ar;have hw0:=hF.low.size;clear hza vB m1 m2 m3 m4 hF hR b1 b2 b3 b4 b5 b6 b7 Je hz1 hz2 Yl f1 f2 Hx;go_upto_region 17 with fail;obtain⟨rb,kS⟩:∃x,wA.heap.size=x:=⟨_,rfl⟩;rw[kS]
          have hY:agE w (O ⟨b,off,U⟩) rs.length cap pb sb AZ cZ (jA rs rs.length) (wA.alloc (D #[I J kd,.string nm,G AR zs.length zc,I J num,I J rn,I J rd,I J sn,I J sd] 48))/\R3 w.heap.size (G A1 q1.length c1) (G A2 q2.length c2) (G A3 q3.length c3) q1 q2 q3 (wA.alloc (D #[I J kd,.string nm,G AR zs.length zc,I J num,I J rn,I J rd,I J sn,I J sd] 48))/\Bk (wA.alloc (D #[I J kd,.string nm,G AR zs.length zc,I J num,I J rn,I J rd,I J sn,I J sd] 48)) rb #[I J kd,.string nm,G AR zs.length zc,I J num,I J rn,I J rd,I J sn,I J sd] 48:=
           ⟨HA.q1.below (aj _ _),HA.t1.below (aj _ _) hw0,au _ _ _ _ kS⟩
          refine forget (λ V=>agE w (O ⟨b,off,U⟩) rs.length cap pb sb AZ cZ (jA rs rs.length) V/\R3 w.heap.size (G A1 q1.length c1) (G A2 q2.length c2) (G A3 q3.length c3) q1 q2 q3 V/\Bk V rb #[I J kd,.string nm,G AR zs.length zc,I J num,I J rn,I J rd,I J sn,I J sd] 48) hY ?_;clear hY HA hbl pZ e0 e1 e2 e3 e4 e5 e6 e7 kS hw0;rintro V ⟨hF,hR,hk⟩;obtain⟨ck,lk⟩:=hk.cl0;obtain⟨cp,lp⟩:=hF.p_.cl0;have HA:=fH hF hR hk;have hw0:=hF.low.size;clear hF hR hk;by_cases hz0:zs.length=0
          · as_aux_lemma=>
            obtain rfl:zs=[]:=lI.1 hz0;clear hz0;have IP:=λ X=>QE 1 (j:Int) (-1) X;have I7:=λ X B=>Va (w:=X) (B:=B) (k:=1) (a:=(j:Int)) (b:= -1) (by unfold fits;omega) (by unfold fits;omega) (by unfold fits;omega) (show f0.length=10 from rfl) Ip;have hsz:(U7 1 (j:Int) (-1) f0).size=13:=Ej rfl;obtain⟨aak,hD⟩:∃aak,U7 1 (j:Int) (-1) f0=aak:=⟨_,rfl⟩;rw[hD] at hsz;simp only[hD] at IP I7;have HD:=fH IP I7 hsz;clear IP I7 hsz hD
            go_wp2_with (first
             |(refine ri (o:=⟨O 71,_,_,_,_,_⟩) rfl 72 _ rfl (.agg aak) (λ w9=>(show _=_ from by simp only[List.map_toArray,aH,aU];exact HD.q1 w9)) ?_;go_simp)
             |(refine iz (o:=⟨O 72,_,_,_,_,_⟩) rfl _ 72 _ rfl aak rfl oa (by rw[HD.t2];kernel_rfl) (by rw[HD.t2];omega) (by rw[HD.t2];omega) (by rw[HD.t2];kernel_rfl) ?_;go_simp)
             |(at_builtin;go_loud (refine en (T:=EN) (e:=72) (base:=w.heap.size) (B:=w.heap.size) (qs:=q1) rfl _ _ 69 rfl 104 oa aV cj Iq rfl (HA.q2.o1.below dE hw0) (O ⟨V.heap.size,0,U⟩) 1 1 [((1,((j:Nat):Int),-1,f0):Fd)] [aak.toList] rfl rfl rfl (λ i h1 h2=>by obtain rfl:i=0:=(by simp at h1;omega);exact HD.q2 _ _) (by have :=gL (Bk.new V aak 72) 1;simp only[fZ,List.flatten_nil,dU];exact this) (by unfold maxLen;omega) ar gW (ah _) ?_);intro A9 c9 w9 iO kY E2 kT;have H9:=aG (Ek HA.q1 HA.q2 (aj V _) iO E2 (El kT));clear iO kY E2 kT))
            go_roundw
            case rel=>
             refine⟨j+1,A9,c9,A2,c2,A3,c3,q1++[((1,((j:Nat):Int),-1,f0):Fd)],q2,q3,ar,gC,bY,rfl,rfl,H9.q1,by simpa using H9.q2,?_,?_,?_,HJ.t5⟩
             · rw[AJ,HJ.q1,dH,HJ.q3];rfl
             · rw[lW,HJ.q1,HJ.q4];simp
             · rw[wR,HJ.q1,HJ.q5];simp
            case measure=>simp[intOf];omega
          · as_aux_lemma=>
            have hz1:¬(zs.length:Int)=0:=ar
            have hze:zs.isEmpty=false:=by cases zs with
             |nil=>exact absurd rfl hz0
             |cons a l=>rfl
            have HZ:=aG hze;clear hze;have hz2:=hz0;clear hz0;have hjr:=hlt
            go_upto_if 85 with(first
             |(go_at_call 55;refine(MU (O ⟨b,off,U⟩) AZ cap cZ (jA rs rs.length).length sb j rs _ (HA.q1.box.below dE) (HG.q1.keep (ay HA.q1.low _) gW) ar hjr).mono ?_;rintro e w3 ⟨d2,d5,A',c',rfl,k1,k2,k3,k4⟩;have H3:=iM k1 k2 k3 k4;clear k1 k2 k3 k4)
             |(go_at_call 54;refine(QF (w:=w) (A:=O ⟨b,off,U⟩) (pb:=pb) (AZ:=AZ) (cZ:=cZ) (cap:=cap) (rs:=rs) (HA.q1.below (aq (aj _ _) H3.q1)) HG.q2 HG.q3 _ 1 j hjr (qK (zs:=[(j:Int)]) ((au V _ _ _ rfl).below H3.q1) rfl (λ z hz=>by simp at hz;subst hz;unfold fits;omega)) d2 d5 A' c' H3.q2 H3.q3 (HG.q1.keep (aq (ay HA.q1.low _) H3.q1) (aq (ay HA.q1.low _) H3.q1).size) H3.t3 Ku).mono ?_;rintro e w4 ⟨ok,g,rfl,k1,k2,k3,k4⟩;have H4:=iM k1 k2 k3 k4;clear k1 k2 k3 k4)
             |(refine fD (o:=⟨U,.store 31 _ _,_,_,_,_⟩) rfl _ _ _ rfl (iw g) rfl rfl (oW H4.q2) (by rw[pM H4.q2];rfl) (rB g) ?_))
            have hY:agE w (O ⟨b,off,U⟩) rs.length cap pb sb AZ cZ (jA rs rs.length) (w4.alloc (D (iw g) 31))/\R3 w.heap.size (G A1 q1.length c1) (G A2 q2.length c2) (G A3 q3.length c3) q1 q2 q3 (w4.alloc (D (iw g) 31))/\Bk (w4.alloc (D (iw g) 31)) rb #[I J kd,.string nm,G AR zs.length zc,I J num,I J rn,I J rd,I J sn,I J sd] 48:=by have kY:aZ V (w4.alloc (D (iw g) 31)):=ay (aq (aq (aj _ _) H3.q1) H4.q1) _;exact⟨HA.q1.below kY,HA.q2.below kY hw0,HA.t2.below kY⟩
            obtain⟨fb,qI⟩:∃x,w4.heap.size=x:=⟨_,rfl⟩;rw[qI];obtain⟨nb,nS⟩:∃x,V.heap.size=x:=⟨_,rfl⟩;simp only[nS];refine forget (λ V=>agE w (O ⟨b,off,U⟩) rs.length cap pb sb AZ cZ (jA rs rs.length) V/\R3 w.heap.size (G A1 q1.length c1) (G A2 q2.length c2) (G A3 q3.length c3) q1 q2 q3 V/\Bk V rb #[I J kd,.string nm,G AR zs.length zc,I J num,I J rn,I J rd,I J sn,I J sd] 48) hY ?_;have HK:=aG H4.t3;clear hY H4 H3 HA ck lk cp lp hw0 qI nS;clear w4 w3 V;rintro V ⟨hF,hR,hk⟩;have HA:=fH hF hR hk;have hw0:=hF.low.size;have MM:=hF.box.lt;clear hF hR hk;go_cut [9] (λ s9 X'=>∃(A2:dB) (c2:Nat) (q2:List Fd),s9=G A2 q2.length c2/\q2.map QD=tD rs (j+1)/\agE w (O ⟨b,off,U⟩) rs.length cap pb sb AZ cZ (jA rs rs.length) X'/\R3 w.heap.size (G A1 q1.length c1) (G A2 q2.length c2) (G A3 q3.length c3) q1 q2 q3 X'/\Bk X' rb #[I J kd,.string nm,G AR zs.length zc,I J num,I J rn,I J rd,I J sn,I J sd] 48)
            case first =>
             cases ok
             · as_aux_lemma=>
               have hid:vM rs j=true:=MX λ h=>by cases HK.o.mpr h
               have HI:=aG hid;clear hid
               go_upto_region 22 with(first
                |(go_at_call 54;refine(Gu (w:=w) (A:=O ⟨b,off,U⟩) (pb:=pb) (AZ:=AZ) (cZ:=cZ) (cap:=cap) (rs:=rs) (HA.q1.below (aj _ _)) HG.q2 HG.q3 _ 1 [j] (qK (zs:=[(j:Int)]) (au V _ _ _ rfl) rfl (λ z hz=>by simp at hz;subst hz;unfold fits;omega)) bY).mono ?_;rintro e w4 ⟨ok,g2,rfl,k1,k2,k3,k4⟩;have H4:=fH k1 k2 k3;clear k1 k2 k3 k4)
                |(refine fD (o:=⟨U,.store 31 _ _,_,_,_,_⟩) rfl _ _ _ rfl (iw g2) rfl rfl (oW H4.q2) (by rw[pM H4.q2];rfl) (rB g2) ?_))
               have hY:agE w (O ⟨b,off,U⟩) rs.length cap pb sb AZ cZ (jA rs rs.length) (w4.alloc (D (iw g2) 31))/\R3 w.heap.size (G A1 q1.length c1) (G A2 q2.length c2) (G A3 q3.length c3) q1 q2 q3 (w4.alloc (D (iw g2) 31))/\Bk (w4.alloc (D (iw g2) 31)) rb #[I J kd,.string nm,G AR zs.length zc,I J num,I J rn,I J rd,I J sn,I J sd] 48/\Bk (w4.alloc (D (iw g2) 31)) w4.heap.size (iw g2) 31:=by have kY:aZ V (w4.alloc (D (iw g2) 31)):=ay (aq (aj _ _) H4.q1) _;exact⟨HA.q1.below kY,HA.q2.below kY hw0,HA.t2.below kY,au _ _ _ _ rfl⟩
               obtain⟨Uu,qI⟩:∃x,w4.heap.size=x:=⟨_,rfl⟩;simp only[qI] at hY⊢;obtain⟨nb2,nS⟩:∃x,V.heap.size=x:=⟨_,rfl⟩;simp only[nS];refine forget (λ V=>agE w (O ⟨b,off,U⟩) rs.length cap pb sb AZ cZ (jA rs rs.length) V/\R3 w.heap.size (G A1 q1.length c1) (G A2 q2.length c2) (G A3 q3.length c3) q1 q2 q3 V/\Bk V rb #[I J kd,.string nm,G AR zs.length zc,I J num,I J rn,I J rd,I J sn,I J sd] 48/\Bk V Uu (iw g2) 31) hY ?_;have IP:=λ X=>KU 2 (j:Int) (-1) H4.q2 X;have I7:=λ X B=>Va (w:=X) (B:=B) (k:=2) (a:=(j:Int)) (b:= -1) (by unfold fits;omega) (by unfold fits;omega) (by unfold fits;omega) H4.q2 H4.t2;have hsz:(U7 2 (j:Int) (-1) g2).size=13:=Ej H4.q2;obtain⟨aak,hD⟩:∃aak,U7 2 (j:Int) (-1) g2=aak:=⟨_,rfl⟩;rw[hD] at hsz;simp only[hD] at IP I7;have HD:=iM IP I7 hsz (oW H4.q2);clear hY H4 HA hw0 qI nS MM IP I7 hsz hD;clear w4 V;rintro V ⟨hF,hR,hk,ZI⟩;have HA:=iM hF hR hk ZI;have hw0:=hF.low.size;have lf2:=ZI.lt;clear hF hR hk ZI
               go_wp2_with (first
                |(refine dM (o:=⟨O 95,_,_,_,_,_⟩) rfl _ _ rfl Uu 0 rfl (iw g2) _ (λ j u h=>by rw[bX,HA.t3.cell];exact h) iu rfl HD.t3 ?_)
                |(refine ri (o:=⟨O 96,_,_,_,_,_⟩) rfl 72 _ rfl (.agg aak) (λ w9=>(show _=_ from by simp only[List.map_toArray,aH,aU];exact HD.q1 w9)) ?_;go_simp)
                |(refine iz (o:=⟨O 97,_,_,_,_,_⟩) rfl _ 72 _ rfl aak rfl oa (by rw[HD.q3];kernel_rfl) (by rw[HD.q3];omega) (by rw[HD.q3];omega) (by rw[HD.q3];kernel_rfl) ?_;go_simp)
                |(at_builtin;go_loud (refine en (T:=EN) (e:=72) (base:=w.heap.size) (B:=w.heap.size) (qs:=q2) rfl _ _ 69 rfl 104 oa aV cj Iq rfl (HA.q2.o2.below dE hw0) (O ⟨V.heap.size,0,U⟩) 1 1 [((2,((j:Nat):Int),-1,g2):Fd)] [aak.toList] rfl rfl rfl (λ i h1 h2=>by obtain rfl:i=0:=(by simp at h1;omega);exact HD.q2 _ _) (by have :=gL (Bk.new V aak 72) 1;simp only[fZ,List.flatten_nil,dU];exact this) (by unfold maxLen;omega) ar gW (ah _) ?_);intro A9 c9 w9 iO kY E2 kT;have H9:=aG (Ek HA.q1 HA.q2.rot (aj V _) iO E2 (El kT));clear iO kY E2 kT))
               go_meet;refine⟨A9,c9,q2++[((2,((j:Nat):Int),-1,g2):Fd)],bY,?_,H9.q1,by simpa using H9.q2.rot.rot,H9.t2 _ _ _ HA.q3 cj⟩;rw[lW,HI.o,HJ.q1,HZ.o,dH,HJ.q4];rfl
             · as_aux_lemma=>have hid:vM rs j=false:=qO (HK.o.mp rfl);have HI:=aG hid;clear hid;go_wp2_with fail;go_meet;refine⟨A2,c2,q2,rfl,?_,HA.q1,HA.q2,HA.t2⟩;rw[lW,HI.o,HJ.q4];simp
            case rest=>
             obtain⟨A2,c2,q2,rfl,m2,hF,hR,hk⟩:=hcut;clear HA hw0 MM Ti;clear V;obtain⟨cp,lp⟩:=hF.p_.cl0;have HA:=iM hF hR hk m2;clear hF hR hk m2;go_wp2_with fail;go_loopw [102,10] (λ i s3 wr=>∃(k:Nat) (A3:dB) (c3:Nat) (q3:List Fd),k<=rs.length/\i=I J k/\s3=G A3 q3.length c3/\agE w (O ⟨b,off,U⟩) rs.length cap pb sb AZ cZ (jA rs rs.length) wr/\R3 w.heap.size (G A1 q1.length c1) (G A2 q2.length c2) (G A3 q3.length c3) q1 q2 q3 wr/\Bk wr rb #[I J kd,.string nm,G AR zs.length zc,I J num,I J rn,I J rd,I J sn,I J sd] 48/\q3.map QD=vP rs j++lG rs j k/\∀q∈q3,abZ rs q) (λ i _ _=>rs.length - (intOf i).toNat)
             case atStart=>exact⟨0,A3,c3,q3,ak _,rfl,rfl,HA.q1,HA.q2,HA.q3,by rw[HJ.q5];unfold lG;simp,HJ.t5⟩
             case round=>
              have HM2:=aG HA.t3;clear HA cp lp;obtain⟨k,A3,c3,q3,hk,rfl,rfl,hF,hR,hkb,m3,m4⟩:=hrel;generalize wr=wB at *;by_cases hlt:k<rs.length
              · as_aux_lemma=>
                have kq:(k:Int)<(rs.length:Int):=ar;have b3:=sZ m3;rw[ax] at b3;have b6:=zO rs j;have b7:j*rs.length<=200*200:=et ar Ku;have b8:=Eh rs j k;have N4:q3.length<=50000:=ar;obtain⟨ck,lk⟩:=hkb.cl0;have HB:=lQ hF hR hkb m3 m4;obtain⟨Z9,nm2,AR2,zs2,zc2,QG,rn2,rd2,sn2,sd2,Hx,pZ,e0,e1,e2,e3,e4,e5,e6,e7⟩:=M3 HG.q1 (k:=k) hlt;have e0:=(HB.q1.low.cell (p:=⟨b,off+k*8,U⟩) pZ).trans e0;have e1:=(HB.q1.low.cell (p:=⟨b,off+k*8+1,U⟩) pZ).trans e1;have e2:=(HB.q1.low.cell (p:=⟨b,off+k*8+2,U⟩) pZ).trans e2;have e3:=(HB.q1.low.cell (p:=⟨b,off+k*8+3,U⟩) pZ).trans e3;have e4:=(HB.q1.low.cell (p:=⟨b,off+k*8+4,U⟩) pZ).trans e4;have e5:=(HB.q1.low.cell (p:=⟨b,off+k*8+5,U⟩) pZ).trans e5;have e6:=(HB.q1.low.cell (p:=⟨b,off+k*8+6,U⟩) pZ).trans e6;have e7:=(HB.q1.low.cell (p:=⟨b,off+k*8+7,U⟩) pZ).trans e7;have hbl:b<wB.heap.size:=by have :=hF.low.size;omega
                have hw0:=hF.low.size;have age:=aG (show qm rs k=Z9 from OE Hx.o);clear hF hR hkb m3 m4 b3 b6 b7 b8 Hx;go_upto_region 26 with fail;obtain⟨rb2,ab5⟩:∃x,wB.heap.size=x:=⟨_,rfl⟩;rw[ab5]
                have hY:agE w (O ⟨b,off,U⟩) rs.length cap pb sb AZ cZ (jA rs rs.length) (wB.alloc (D #[I J Z9,.string nm2,G AR2 zs2.length zc2,I J QG,I J rn2,I J rd2,I J sn2,I J sd2] 48))/\R3 w.heap.size (G A1 q1.length c1) (G A2 q2.length c2) (G A3 q3.length c3) q1 q2 q3 (wB.alloc (D #[I J Z9,.string nm2,G AR2 zs2.length zc2,I J QG,I J rn2,I J rd2,I J sn2,I J sd2] 48))/\Bk (wB.alloc (D #[I J Z9,.string nm2,G AR2 zs2.length zc2,I J QG,I J rn2,I J rd2,I J sn2,I J sd2] 48)) rb #[I J kd,.string nm,G AR zs.length zc,I J num,I J rn,I J rd,I J sn,I J sd] 48/\Bk (wB.alloc (D #[I J Z9,.string nm2,G AR2 zs2.length zc2,I J QG,I J rn2,I J rd2,I J sn2,I J sd2] 48)) rb2 #[I J Z9,.string nm2,G AR2 zs2.length zc2,I J QG,I J rn2,I J rd2,I J sn2,I J sd2] 48:=
                 ⟨HB.q1.below (aj _ _),HB.q2.below (aj _ _) hw0,HB.q3.below (aj _ _),au _ _ _ _ ab5⟩
                refine forget (λ V=>agE w (O ⟨b,off,U⟩) rs.length cap pb sb AZ cZ (jA rs rs.length) V/\R3 w.heap.size (G A1 q1.length c1) (G A2 q2.length c2) (G A3 q3.length c3) q1 q2 q3 V/\Bk V rb #[I J kd,.string nm,G AR zs.length zc,I J num,I J rn,I J rd,I J sn,I J sd] 48/\Bk V rb2 #[I J Z9,.string nm2,G AR2 zs2.length zc2,I J QG,I J rn2,I J rd2,I J sn2,I J sd2] 48) hY ?_;have HM:=aG HB.t3;have hkr:=hlt;clear hY HB hbl pZ e0 e1 e2 e3 e4 e5 e6 e7 ab5 hw0 ck lk;rintro V ⟨hF,hR,hk,hk2⟩;obtain⟨ck,lk⟩:=hk.cl0;obtain⟨ck2,lk2⟩:=hk2.cl0;have HA:=fH hF hR hk;have hw0:=hF.low.size;clear hF hR hk hk2;by_cases g1:kd=1
                · subst g1
                  by_cases g2:Z9=2
                  · as_aux_lemma=>
                    subst g2;have hjk:(decide (qm rs j=1)&&decide (qm rs k=2)&&rX rs j k)=rX rs j k:=by rw[age.o,HJ.q2];simp
                    have HJK:=aG hjk;clear hjk
                    go_upto_if 123 with(first
                     |(go_at_call 54;refine(Gu (w:=w) (A:=O ⟨b,off,U⟩) (pb:=pb) (AZ:=AZ) (cZ:=cZ) (cap:=cap) (rs:=rs) (HA.q1.below (aj _ _)) HG.q2 HG.q3 _ 2 [j,k] (qK (zs:=[(j:Int),(k:Int)]) (au V _ _ _ rfl) rfl (λ z hz=>by simp only[aR,bH,or_false] at hz;unfold fits;omega)) bY).mono ?_;rintro e w4 ⟨ok,g2,rfl,k1,k2,k3,k4⟩;have H4:=iM k1 k2 k3 k4;clear k1 k2 k3 k4)
                     |(refine fD (o:=⟨U,.store 31 _ _,_,_,_,_⟩) rfl _ _ _ rfl (iw g2) rfl rfl (oW H4.q2) (by rw[pM H4.q2];rfl) (rB g2) ?_))
                    have hY:agE w (O ⟨b,off,U⟩) rs.length cap pb sb AZ cZ (jA rs rs.length) (w4.alloc (D (iw g2) 31))/\R3 w.heap.size (G A1 q1.length c1) (G A2 q2.length c2) (G A3 q3.length c3) q1 q2 q3 (w4.alloc (D (iw g2) 31))/\Bk (w4.alloc (D (iw g2) 31)) rb #[I J 1,.string nm,G AR zs.length zc,I J num,I J rn,I J rd,I J sn,I J sd] 48/\Bk (w4.alloc (D (iw g2) 31)) w4.heap.size (iw g2) 31:=by have kY:aZ V (w4.alloc (D (iw g2) 31)):=ay (aq (aj _ _) H4.q1) _;exact⟨HA.q1.below kY,HA.q2.below kY hw0,HA.t2.below kY,au _ _ _ _ rfl⟩
                    obtain⟨Uu,qI⟩:∃x,w4.heap.size=x:=⟨_,rfl⟩;simp only[qI] at hY⊢;obtain⟨nb2,nS⟩:∃x,V.heap.size=x:=⟨_,rfl⟩;simp only[nS];refine forget (λ V=>agE w (O ⟨b,off,U⟩) rs.length cap pb sb AZ cZ (jA rs rs.length) V/\R3 w.heap.size (G A1 q1.length c1) (G A2 q2.length c2) (G A3 q3.length c3) q1 q2 q3 V/\Bk V rb #[I J 1,.string nm,G AR zs.length zc,I J num,I J rn,I J rd,I J sn,I J sd] 48/\Bk V Uu (iw g2) 31) hY ?_;have IP:=λ X=>KU 3 (j:Int) (k:Int) H4.q2 X;have I7:=λ X B=>Va (w:=X) (B:=B) (k:=3) (a:=(j:Int)) (b:=(k:Int)) (by unfold fits;omega) (by unfold fits;omega) (by unfold fits;omega) H4.q2 H4.q3;have hsz:(U7 3 (j:Int) (k:Int) g2).size=13:=Ej H4.q2;obtain⟨aak,hD⟩:∃aak,U7 3 (j:Int) (k:Int) g2=aak:=⟨_,rfl⟩;rw[hD] at hsz;simp only[hD] at IP I7;have hmt:rX rs j k=ok:=U3 H4.q4;have HD:=yJ IP I7 hsz (oW H4.q2) hmt H4.q2 H4.t4;clear hY H4 HA hw0 qI nS IP I7 hsz hD hmt ck lk ck2 lk2;clear w4 V;rintro V ⟨hF,hR,hk,ZI⟩;have HA:=iM hF hR hk ZI;have hw0:=hF.low.size;have lf2:=ZI.lt;clear hF hR hk ZI;cases ok
                    · as_aux_lemma=>
                      go_wp2_with fail;go_roundw
                      case rel=>exact⟨k+1,A3,c3,q3,ar,gC,rfl,HA.q1,HA.q2,HA.q3,by rw[fW,HJK.o,HD.q5,HM.q1];simp,HM.t1⟩
                      case measure=>simp[intOf];omega
                    · as_aux_lemma=>
                      go_wp2_with (first
                       |(refine dM (o:=⟨O 127,_,_,_,_,_⟩) rfl _ _ rfl Uu 0 rfl (iw g2) _ (λ j u h=>by rw[bX,HA.t3.cell];exact h) iu rfl HD.q4 ?_)
                       |(refine ri (o:=⟨O 128,_,_,_,_,_⟩) rfl 72 _ rfl (.agg aak) (λ w9=>(show _=_ from by simp only[List.map_toArray,aH,aU];exact HD.q1 w9)) ?_;go_simp)
                       |(refine iz (o:=⟨O 129,_,_,_,_,_⟩) rfl _ 72 _ rfl aak rfl oa (by rw[HD.q3];kernel_rfl) (by rw[HD.q3];omega) (by rw[HD.q3];omega) (by rw[HD.q3];kernel_rfl) ?_;go_simp)
                       |(at_builtin;go_loud (refine en (T:=EN) (e:=72) (base:=w.heap.size) (B:=w.heap.size) (qs:=q3) rfl _ _ 69 rfl 104 oa aV cj Iq rfl (HA.q2.o3.below dE hw0) (O ⟨V.heap.size,0,U⟩) 1 1 [((3,((j:Nat):Int),((k:Nat):Int),g2):Fd)] [aak.toList] rfl rfl rfl (λ i h1 h2=>by obtain rfl:i=0:=(by simp at h1;omega);exact HD.q2 _ _) (by have :=gL (Bk.new V aak 72) 1;simp only[fZ,List.flatten_nil,dU];exact this) (by unfold maxLen;omega) ar gW (ah _) ?_);intro A9 c9 w9 iO kY E2 kT;have H9:=aG (Ek HA.q1 HA.q2.rot.rot (aj V _) iO E2 (El kT));clear iO kY E2 kT))
                      go_roundw
                      case rel=>
                       refine⟨k+1,A9,c9,q3++[((3,((j:Nat):Int),((k:Nat):Int),g2):Fd)],ar,gC,bY,H9.q1,by simpa using H9.q2.rot,H9.t2 _ _ _ HA.q3 cj,?_,λ q hq=>?_⟩
                       · rw[fW,HJK.o,HD.q5,dH,HM.q1]
                         simp[QD]
                       · rcases bV.1 hq with h|h
                         · exact HM.t1 q h
                         · simp only[aR,bH,or_false] at h
                           subst h;exact⟨HD.q6,(HD.t6 rfl).1,j,k,rfl,rfl,(HD.t6 rfl).2⟩
                      case measure=>simp[intOf];omega
                  · as_aux_lemma=>
                    have hsk:(decide (qm rs j=1)&&decide (qm rs k=2)&&rX rs j k)=false:=by rw[age.o,decide_eq_false g2];simp
                    have HSK:=aG hsk;clear hsk;go_wp2_with fail;go_roundw
                    case rel=>exact⟨k+1,A3,c3,q3,ar,gC,rfl,HA.q1,HA.q2,HA.t2,by rw[fW,HSK.o,HM.q1];simp,HM.t1⟩
                    case measure=>simp[intOf];omega
                · as_aux_lemma=>
                  have hsk:(decide (qm rs j=1)&&decide (qm rs k=2)&&rX rs j k)=false:=by rw[HJ.q2,decide_eq_false g1];simp
                  have HSK:=aG hsk;clear hsk;go_wp2_with fail;go_roundw
                  case rel=>exact⟨k+1,A3,c3,q3,ar,gC,rfl,HA.q1,HA.q2,HA.t2,by rw[fW,HSK.o,HM.q1];simp,HM.t1⟩
                  case measure=>simp[intOf];omega
              · as_aux_lemma=>
                obtain rfl:k=rs.length:=ar;have HB:=iM hF hR m3 m4;clear hF hR hkb m3 m4;go_wp2_with fail;go_roundw
                case rel=>
                 refine⟨j+1,A1,c1,A2,c2,A3,c3,q1,q2,q3,ar,gC,rfl,rfl,rfl,HB.q1,HB.q2,?_,HM2.o,?_,HB.t3⟩
                 · rw[AJ,HJ.q1,HZ.o,HJ.q3];simp
                 · rw[wR,HJ.q1,HZ.o,HB.q3];simp
                case measure=>simp[intOf];omega
        · as_aux_lemma=>
          obtain rfl:j=rs.length:=ar;have b1:=sZ m1;have b2:=sZ m2;have b3:=sZ m3;have b4:=Eg rs rs.length;have b5:=Gs rs rs.length;have b6:=zO rs rs.length;have b7:rs.length*rs.length<=200*200:=et ar Ku
          have hlen:[q1,q2,q3].flatten.length<=1000000:=by simp only[fZ,List.flatten_nil,dU,ax];omega
          have O1:U4 rs [q1,q2,q3].flatten:=by
           simp only[fZ,List.flatten_nil,dU];refine⟨by rw[dH,dH,m1,m2,m3],λ q hq h3=>?_⟩;rcases bV.1 hq with h|h
           · have :QD q∈rh rs rs.length:=by rw[<-m1];exact eQ.2 ⟨q,h,rfl⟩
             unfold rh at this;obtain⟨n,_,e⟩:=eQ.1 this;have :=congrArg (λ x=>x.1) e;simp only[QD] at this;omega
           · rcases bV.1 h with h|h
             · have :QD q∈tD rs rs.length:=by rw[<-m2];exact eQ.2 ⟨q,h,rfl⟩
               unfold tD at this;obtain⟨n,_,e⟩:=eQ.1 this;have :=congrArg (λ x=>x.1) e;simp only[QD] at this;omega
             · exact m4 q h
          have HB:=iM hF hR hlen O1;have hw0:=hF.low.size;clear b1 b2 b3 b4 b5 b6 b7 hlen O1 hF hR m1 m2 m3 m4;go_wp2_with (go_at_call 57;refine(MZ _ [q1,q2,q3] 3 _ (YD HB.q2 hw0) bY HB.q3).mono ?_;rintro e w5 ⟨A5,c5,rfl,k1,k2⟩;have H5:=dt k1 k2;clear k1 k2);go_ret;refine⟨aq (ay HB.q1.low _) H5.t1,A5,c5,[q1,q2,q3].flatten,bY,H5.q1.elems (bm (ah _) H5.t1.size) (ah _),?_⟩;rw[HG.q2];exact HB.t3
end
section
open Go.RowKit Go.Maps
attribute [local go_sem] aQ aC bW
def OI(X:agb)(nb:Nat):Nat:=match X.cell? ⟨nb,2,U⟩ with
 |some (G _ l _)=>if l=0 then 0 else 11 - (intOf ((X.cell? ⟨nb,0,U⟩).getD (I J 0))).toNat
 |_=>0
theorem KV{X:agb}{nb l3 l4 c3 c4 a:Nat}{A3 A4:dB}{lf:R}{t:TypeId}(h:Bk X nb #[I J (a:Nat),G A3 l3 c3,G A4 l4 c4,lf] t):OI X nb=if l4=0 then 0 else 11 - a:=by unfold OI;rw[h.cell,h.cell];simp[intOf]
theorem ab6(d:Dk):d.1.toArray.all (·.oneCell')=true:=by rw[dJ];intro x hx;exact d.2.2.1 x (by simpa using hx)
theorem YF(d:Dk):d.1.toArray.size=16:=by simp[d.2.1]
variable{Z:List Zn}{eE:Fc->Dk}
structure Lk(w:agb)(A1:dB)(c1:Nat)(A2:dB)(c2:Nat)(T:List Nd)(Lv:List Dk)(f:Fc)(d:Dk)(zd:Array R)(nb:Nat)(n:Nat)(X:agb):Prop where
 low:aZ w X
 tb:Bk X w.heap.size #[G A1 T.length c1,G A2 Lv.length c2] 56
 fb:Bk X (w.heap.size+1) (iw f) 31
 rb:Bk X (w.heap.size+1+1) zd 63
 nw:w.heap.size+1+1<nb
 lead:∃l s,tR T f n l s/\Lv[l]?=O d
 box:∃nd A3 q3 A4 q4,T[n]?=O nd/\Bk X nb #[I J nd.attr,G A3 nd.cJ.length q3,G A4 nd.kids.length q4,I J nd.leaf] 121/\ic dr w A3 nd.cJ/\ic dr w A4 (cV nd.kids)/\(nd.cJ.length<=q3/\q3<=maxLen)/\(nd.kids.length<=q4/\q4<=maxLen)/\fits nd.attr/\fits nd.leaf
theorem Em(A1 A2:dB)(c1 c2:Nat)(T:List Nd)(Lv:List Dk)(f:Fc)(w:agb)(h:mU Z aP eE T Lv)(h1:ic vH w A1 (T.map pA))(h2:ic Hm w A2 Lv)(ht:nu w)(hZ:Z.length<=100000)(hf:f.length=10)(qd:∀a,fits (eO f a))(hw:ik aP f):
 Calls prog 15 #[.agg #[G A1 T.length c1,G A2 Lv.length c2],.agg (iw f)] w (jL (.agg (eE f).1.toArray) w):=by
 have ZG:(T.length:Int)<=20000:=by have :=h.le;omega
 have hT1:(0:Int)<(T.length:Int):=by have :=h.pos;omega
 obtain⟨l0,s0,aab,hl0⟩:=h.sem f hw;obtain⟨nd,nJ⟩:∃nd,T[0]?=O nd:=⟨_,af h.pos⟩;obtain⟨bN,oN,A3,q3,A4,q4,rfl,vI,m0,m1,m2,m3,Ai,Qq,hc3,Ov,f3,f4⟩:=mS h1 nJ;have HH:=yJ h h1 h2 ht hf qd hw;have HN:=Ru nJ Ai Qq hc3 Ov f3 f4 aab hl0;clear h h1 h2 ht hf qd hw nJ Ai Qq hc3 Ov f3 f4 aab hl0;go_enter func15,ntmps15;go_upto_region 3 with(go_at_call 42;refine(D4 (O ⟨bN,oN,U⟩) A2 c1 c2 T Lv _ HH.q1 (HH.q2.keep dE gW) (HH.q3.keep dE gW) (HH.q4.below dE) hZ).mono ?_;rintro e w2 ⟨rfl,hb⟩;have HB:=aG hb;clear hb);obtain⟨zd,hzd,hzs⟩:∃zd,Bk w2 (w.heap.size+1+1) zd 63/\zd.size=16:=⟨_,Bk.sj (au _ _ _ _ bY) HB.o bY,by rfl⟩;have hY:aZ w w2/\Bk w2 w.heap.size #[G (O ⟨bN,oN,U⟩) T.length c1,G A2 Lv.length c2] 56/\Bk w2 (w.heap.size+1) (iw f) 31/\Bk w2 (w.heap.size+1+1) zd 63:=⟨aq dE HB.o,Bk.sj (((au _ _ _ _ rfl).alloc _).alloc _) HB.o gW,Bk.sj ((au _ _ _ _ bY).alloc _) HB.o bY,hzd⟩;refine forget (λ X=>aZ w X/\Bk X w.heap.size #[G (O ⟨bN,oN,U⟩) T.length c1,G A2 Lv.length c2] 56/\Bk X (w.heap.size+1) (iw f) 31/\Bk X (w.heap.size+1+1) zd 63) hY ?_;clear hY hzd HB;clear w2;rintro X ⟨k1,k2,k3,k4⟩;have m0:=(k1.cell (p:=⟨bN,oN+0*4,U⟩) vI).trans m0;have m1:=(k1.cell (p:=⟨bN,oN+0*4+1,U⟩) vI).trans m1;have m2:=(k1.cell (p:=⟨bN,oN+0*4+2,U⟩) vI).trans m2;have m3:=(k1.cell (p:=⟨bN,oN+0*4+3,U⟩) vI).trans m3;simp only[Nat.zero_mul,Nat.add_zero] at m0 m1 m2 m3;have hbl:bN<X.heap.size:=by have :=k1.size;omega
 obtain⟨cb,lb⟩:=k2.cl0;have HX:=iM k1 k2 k3 k4;clear k1 k2 k3 k4;go_upto_region 4 with fail;obtain⟨nb,nS⟩:∃z,X.heap.size=z:=⟨_,rfl⟩
 have hY:Lk w (O ⟨bN,oN,U⟩) c1 A2 c2 T Lv f (eE f) zd nb 0 (X.alloc (D #[I J nd.attr,G A3 nd.cJ.length q3,G A4 nd.kids.length q4,I J nd.leaf] 121)):=
  ⟨ay HX.q1 _,HX.q2.alloc _,HX.q3.alloc _,HX.t3.alloc _,by have :=HX.t3.lt;omega,⟨l0,s0,HN.t7⟩,⟨nd,A3,q3,A4,q4,HN.q1,au _ _ _ _ nS,HN.q2,HN.q3,HN.q4,HN.q5,HN.q6,HN.q7⟩⟩
 rw[nS];refine forget (λ Y=>Lk w (O ⟨bN,oN,U⟩) c1 A2 c2 T Lv f (eE f) zd nb 0 Y) hY ?_;clear hY HX HN cb lb m0 m1 m2 m3 hbl nS;clear X;rintro Y hY;have HY:=aG hY;clear hY;go_wp2_with fail;go_loopw [6] (λ v wr=>∃n,Lk w (O ⟨bN,oN,U⟩) c1 A2 c2 T Lv f (eE f) zd nb n wr) (λ v wr=>OI wr nb)
 case atStart=>exact⟨0,HY.o⟩
 case round=>
  clear HY;obtain⟨n,hL⟩:=hrel;generalize wr=wA at *;obtain⟨nd,A3,q3,A4,q4,nJ,tJ,Ai,Qq,hc3,Ov,f3,f4⟩:=hL.box;have hst:=KV tJ;rw[hst];by_cases hk:nd.kids=[]
  · as_aux_lemma=>
    have Ou:¬(0:Int)<(nd.kids.length:Int):=by rw[hk];simp
    obtain⟨l,s,hle,hd⟩:=hL.lead
    have hl:l=nd.leaf:=by
     cases hle with
     |leaf h _=>rw[nJ] at h;cases h;rfl
     |node h qq _=>rw[nJ] at h;cases h;rw[hk] at qq;cases qq
    subst hl;obtain⟨bL,oL,rfl,Ge,hc⟩:=Il HH.q3 hd;have hlt:nd.leaf<Lv.length:=(ai.1 hd).1;have ar5:(nd.leaf:Int)<(Lv.length:Int):=ar;have hc2:∀i u,(eE f).1.toArray[i]?=O u->wA.cell? ⟨bL,oL+nd.leaf*16+i,U⟩=O u:=λ i u h=>(hL.low.cell (p:=⟨bL,oL+nd.leaf*16+i,U⟩) Ge).trans (hc i u h);obtain⟨cb,lb⟩:=hL.tb.cl0;obtain⟨cx,lx⟩:=tJ.cl0;have h1:=Cb (eE f);have h2:zd.size=(eE f).1.toArray.size:=by rw[hzs,YF]
    have h3:=ab6 (eE f);obtain⟨aak,hD⟩:∃aak,(eE f).1.toArray=aak:=⟨_,rfl⟩;rw[hD] at hc2 h1 h2 h3;have hres:∀X':agb,aZ w X'->(Ending.returned (.agg aak)=.returned (.agg (eE f).1.toArray)/\aZ w X'):=λ X' h=>⟨by rw[hD],h⟩;have HC:=uF hc2 hL h1 h2 h3 hres;clear hc2 hL hc hd hle tJ hst hk Ai Qq nJ h1 h2 h3 hres hD;clear HH
    go_wp2_with (first
     |(refine dM (o:=⟨O 42,_,_,_,_,_⟩) rfl _ _ rfl bL (oL+nd.leaf*16) rfl aak _ HC.q1 gH rfl HC.q3 ?_
       refine eK (o:=⟨U,.store 63 _ _,_,_,_,_⟩) rfl _ _ _ rfl (w.heap.size+1+1) aak rfl rfl HC.q2.rb HC.q3 HC.q4 HC.q5 ?_;intro X2 hb2 tI))
    exact bodyPost_ret (v:=.agg aak) (results_cell_row rfl _ _ (w.heap.size+1+1) 63 aak (0,0) _ rfl hb2 gH rfl HC.q3) rfl (HC.t5 _ (HC.q2.low.trans (tI.aK (λ g hg=>by rw[hg];omega) HC.q2.low.size)))
  · as_aux_lemma=>
    obtain⟨l,s,hle,hd⟩:=hL.lead
    obtain⟨k,s',JL,agf⟩:∃k s',nd.kids[gT nd.cJ (eO f nd.attr)]?=O k/\tR T f k l s':=by
     cases hle with
     |leaf h h'=>rw[nJ] at h;cases h;exact absurd h' hk
     |node h qq hr=>rw[nJ] at h;cases h;exact⟨_,_,qq,hr⟩
    obtain⟨hat,anM,Wz⟩:nd.attr<10/\nd.kids.length=nd.cJ.length+1/\∀k∈nd.kids,k<T.length/\∀nk,T[k]?=O nk->nk.kids≠ []->nd.attr<nk.attr:=by
     rcases HH.q1.form n nd nJ with⟨h,_⟩|⟨h1,_,_,h2,_,_,_,h3⟩
     · exact absurd h hk
     · exact⟨h1,h2,h3⟩
    obtain⟨kq,YG⟩:=Wz k (az JL);obtain⟨nk,RO⟩:∃nk,T[k]?=O nk:=⟨_,af kq⟩;obtain⟨bN',oN',A5,q5,A6,q6,eA,_,m0,m1,m2,m3,hE5,hE6,hc5,hc6,f5,f6⟩:=mS HH.q2 RO;injection eA with eA
    injection eA with eA1 eA2
    subst eA1 eA2;have hkp:0<nd.kids.length:=ar;rw[if_neg (ar:¬nd.kids.length=0)];obtain⟨v,hv⟩:∃v,eO f nd.attr=v:=⟨_,rfl⟩;rw[hv] at JL;have hcx:=xI nd.cJ v;have Fh:gT nd.cJ v<nd.kids.length:=ar;obtain⟨b4,o4,xk,rfl,hb4,_,Oq,d4,_,_⟩:=Qq.fC (k:=gT nd.cJ v) (by rw[dy];exact Fh)
    have XY:xk=(k:Int):=by
     have :=Oq.o;unfold cV at this;rw[bQ,JL] at this;injection this with e
     exact e.symm
    subst XY;obtain⟨ix,Ob⟩:∃x,gT nd.cJ v=x:=⟨_,rfl⟩;rw[Ob] at d4 hcx Fh;have hxI:(ix:Int)<(nd.kids.length:Int):=ar;have Ou:(k:Int)<(T.length:Int):=ar;have ar8:(0:Int)<(nd.kids.length:Int):=ar;have HN:=ah5 hv Ob Ai hc3 Qq hat YG RO hE5 hE6 hc5 hc6 f5 f6 agf hd
    have ey:∀X,aZ wA X->Calls prog 44 #[G A3 nd.cJ.length q3,.func (.func 45) #[] #[M (O ⟨w.heap.size+1,0,U⟩),M (O ⟨nb,0,U⟩)]] X (jL (I J (wQ nd.cJ v)) X):=λ X hX=>by rw[<-hv];exact afr A3 nd.cJ q3 (eO f nd.attr) (w.heap.size+1) nb X (Ai.keep (aq hL.low hX) (aq hL.low hX).size) (by unfold maxLen at hc3;omega) (λ V c hV hc=>Qo c f nd.attr (w.heap.size+1) nb _ _ _ V HH.q5 hat ((hL.fb.below hX).below hV) ((tJ.below hX).below hV))
    obtain⟨cb,lb⟩:=hL.tb.cl0;obtain⟨cx,lx⟩:=tJ.cl0;have HC:=fH hL ey tJ;clear hL ey tJ hst hle agf hd JL Wz kq YG RO Ai Qq hE5 hE6 hc3 Ov hc5 hc6 f5 f6 Oq hv Ob nJ f3 f4 hk;go_upto_region 6 with(go_at_call 44;refine Calls.mono (HC.q2 _ dE) ?_;rintro e w2 ⟨rfl,hb⟩;have HB:=aG hb;clear hb)
    have hY:Lk w (O ⟨bN,oN,U⟩) c1 A2 c2 T Lv f (eE f) zd nb n w2/\Bk w2 nb #[I J nd.attr,G A3 nd.cJ.length q3,G (O ⟨b4,o4,U⟩) nd.kids.length q4,I J nd.leaf] 121:=by have hb:aZ wA w2:=aq dE HB.o;have hL:=HC.q1;obtain⟨nd9,A9,q9,A8,q8,e1,e2,e3,e4,e5⟩:=hL.box;exact⟨⟨aq hL.low hb,hL.tb.below hb,hL.fb.below hb,hL.rb.below hb,hL.nw,hL.lead,⟨nd9,A9,q9,A8,q8,e1,e2.below hb,e3,e4,e5⟩⟩,HC.t2.below hb⟩
    refine forget (λ V=>Lk w (O ⟨bN,oN,U⟩) c1 A2 c2 T Lv f (eE f) zd nb n V/\Bk V nb #[I J nd.attr,G A3 nd.cJ.length q3,G (O ⟨b4,o4,U⟩) nd.kids.length q4,I J nd.leaf] 121) hY ?_;clear hY HB HC cb lb cx lx;clear w2;rintro V ⟨hL,tJ⟩;obtain⟨cb,lb⟩:=hL.tb.cl0;obtain⟨cx,lx⟩:=tJ.cl0;have fx:=tJ.free;have m0:=(hL.low.cell (p:=⟨bN,oN+k*4,U⟩) vI).trans m0;have m1:=(hL.low.cell (p:=⟨bN,oN+k*4+1,U⟩) vI).trans m1;have m2:=(hL.low.cell (p:=⟨bN,oN+k*4+2,U⟩) vI).trans m2;have m3:=(hL.low.cell (p:=⟨bN,oN+k*4+3,U⟩) vI).trans m3;have d4:=(hL.low.cell (p:=⟨b4,o4+ix,U⟩) hb4).trans d4;have hbl:bN<V.heap.size:=by have :=hL.low.size;omega
    have asa:b4<V.heap.size:=by have :=hL.low.size;omega
    have HV:=dt hL tJ;clear hL tJ;go_upto_if 24 with fail;go_cut [6] (λ t X'=>t=I J ix/\X'=V)
    case first =>
     by_cases hlt:ix<nd.cJ.length
     · have vB:wQ nd.cJ v=(ix:Int):=by unfold wQ;rw[HN.q2,if_pos hlt]
       rw[vB];have h0:¬(ix:Int)<0:=ar;clear vB;go_wp2_with fail;go_meet;exact⟨rfl,rfl⟩
     · have vB:wQ nd.cJ v= -1:=by unfold wQ;rw[HN.q2,if_neg hlt]
       have Ut:nd.cJ.length=ix:=ar;rw[vB];rw[Ut] at cx;clear vB Ut;go_wp2_with fail;go_meet;exact⟨rfl,rfl⟩
    case rest=>
    obtain⟨hv,hw⟩:=hcut;subst hv;subst hw;go_upto_region 8 with fail;refine ed (λ w'=>∃u,w'=ext wc u) [([0,1,2,3,4,5,6,7,8],[])] 9 aV aV ⟨_,(dV ((aA wc.heap.size wc).drew)).choose_spec.symm⟩ ?_;(refine bT (λ K9 h9=>?_);simp only[aH,aU,aW,aa,ae];(repeat(go_big_quiet_step (fail)));refine wpQuiet_nil (h9 _ ?_);clear h9 K9)
    refine bU (dF ?_);simp only[aW,aa,ae];go_wp2_with fail;have hL:=HV.q1;have hnw:=hL.nw
    have ho:Only (λ g=>g=nb) wc (((((wc.setCell ⟨nb,0,U⟩ (I J nk.attr)).setCell ⟨nb,1,U⟩ (G A5 nk.cJ.length q5)).setCell ⟨nb,2,U⟩ (G A6 nk.kids.length q6)).setCell ⟨nb,3,U⟩ (I J nk.leaf)).drew):=
     (((((Only.refl (λ g=>g=nb) wc).aS (p:=⟨nb,0,U⟩) (.inl rfl) _).aS (p:=⟨nb,1,U⟩) (.inl rfl) _).aS (p:=⟨nb,2,U⟩) (.inl rfl) _).aS (p:=⟨nb,3,U⟩) (.inl rfl) _).drew
    have pX:=((((HV.t1.aS 0 (I J nk.attr)).aS 1 (G A5 nk.cJ.length q5)).aS 2 (G A6 nk.kids.length q6)).aS 3 (I J nk.leaf)).drew;simp only[dS,iD,iE] at pX;have bI:=hL.low.trans (ho.aK (λ g hg=>by rw[hg];omega) hL.low.size)
    have hL2:Lk w (O ⟨bN,oN,U⟩) c1 A2 c2 T Lv f (eE f) zd nb k (((((wc.setCell ⟨nb,0,U⟩ (I J nk.attr)).setCell ⟨nb,1,U⟩ (G A5 nk.cJ.length q5)).setCell ⟨nb,2,U⟩ (G A6 nk.kids.length q6)).setCell ⟨nb,3,U⟩ (I J nk.leaf)).drew):=
     ⟨bI,hL.tb.only ho ar,hL.fb.only ho ar,hL.rb.only ho ar,hL.nw,⟨l,s',HN.q15,HN.t15⟩,⟨nk,A5,q5,A6,q6,HN.q8,pX,HN.q9,HN.Ci,HN.q11,HN.q12,HN.q13,HN.q14⟩⟩
    have hst:OI (((((wc.setCell ⟨nb,0,U⟩ (I J nk.attr)).setCell ⟨nb,1,U⟩ (G A5 nk.cJ.length q5)).setCell ⟨nb,2,U⟩ (G A6 nk.kids.length q6)).setCell ⟨nb,3,U⟩ (I J nk.leaf)).drew) nb<11 - nd.attr:=by
     rw[KV pX];have hat:=HN.q6;have YG:=HN.q7;split
     · omega
     · rename_i hne
       have :=YG nk HN.q8 (λ e=>hne (by rw[e];rfl));omega
    have HE:=dt hL2 hst;clear hL hnw ho pX bI hL2 hst;go_roundw
    case rel=>exact⟨k,HE.q1⟩
    case measure=>exact HE.t1
end
section
def ab7:BA0:=⟨#[108,111,119]⟩
def LX:Nm:=([ab7],[ab7++Jf++⟨#[98]⟩,ab7++Jf++⟨#[115]⟩])
theorem YH:je LX SP=[]:=by decide+kernel
def oz:List Rl:=jx LX SP
theorem Iu:jg oz=true:=by decide+kernel
def akM(a:Nat):Nat:=(fI (bc oz) (atR aP a).1 (atR aP a).2 a (List.range ((bc oz).length+1))).length
theorem QH:il akM 10<=20000:=by decide+kernel
theorem OJ:il (cA (bc oz) aP) 10<=20000:=bm (DJ (λ a=>B7 _) 10) QH
end
section
open Go.RowKit
attribute [local go_sem] aQ aC bW
def Says(w:agb)(F:FuncId)(args:Array R)(r:Bool):Prop:=(∀a w,(callFunc F a).run prog w=.ok (.enter F a) w)/\∀X,aZ w X->Calls prog F args X λ e X'=>e=.returned (.bool r)/\aZ X X'
theorem M5(w:agb)(b off cap:Nat)(F:FuncId)(jz:Array R)(x0 x1 x2 x3 x4 x5 x6 x7:R)(r:Bool)(z:Int)(hz:(r=true/\z=0)\/(r=false/\z= -1))(hb:b<w.heap.size)(h:∀i v,(#[x0,x1,x2,x3,x4,x5,x6,x7]:Array R)[i]?=O v->w.cell? ⟨b,off+i,U⟩=O v)(hc:Says w F (#[.agg #[x0,x1,x2,x3,x4,x5,x6,x7]]++jz) r):
 Calls prog 113 #[G (O ⟨b,off,U⟩) 1 cap,.func (.func F) #[] jz] w (jL (I J z) w):=by
 have d0:w.cell? ⟨b,off,U⟩=O x0:=h 0 _ rfl;have d1:w.cell? ⟨b,off+1,U⟩=O x1:=h 1 _ rfl;have d2:w.cell? ⟨b,off+2,U⟩=O x2:=h 2 _ rfl;have d3:w.cell? ⟨b,off+3,U⟩=O x3:=h 3 _ rfl;have d4:w.cell? ⟨b,off+4,U⟩=O x4:=h 4 _ rfl;have d5:w.cell? ⟨b,off+5,U⟩=O x5:=h 5 _ rfl;have d6:w.cell? ⟨b,off+6,U⟩=O x6:=h 6 _ rfl;have d7:w.cell? ⟨b,off+7,U⟩=O x7:=h 7 _ rfl;have KO:=hc.1;have HC:=aG hc.2;clear h hc;go_enter func113,ntmps113;go_wp2_with fail;refine wp_loop_rounds 2 ?_;rw[rounds_succ];rcases hz with⟨rfl,rfl⟩|⟨rfl,rfl⟩
 · go_wp2_with (go_at_fn F;refine(HC.o _ dE).mono ?_;rintro e w3 ⟨rfl,hb3⟩;have H3:=aG hb3;clear hb3)
   go_ret;exact⟨rfl,aq dE H3.o⟩
 · go_wp2_with (go_at_fn F;refine(HC.o _ dE).mono ?_;rintro e w3 ⟨rfl,hb3⟩;have H3:=aG hb3;clear hb3)
   rw[rounds_succ];go_wp2_with fail;go_ret;exact⟨rfl,aq dE H3.o⟩
theorem Eo(w:agb)(b off cap:Nat)(F:FuncId)(jz:Array R)(x0 x1 x2:R)(r:Bool)(z:Int)(hz:(r=true/\z=0)\/(r=false/\z= -1))(hb:b<w.heap.size)(h:∀i v,(#[x0,x1,x2]:Array R)[i]?=O v->w.cell? ⟨b,off+i,U⟩=O v)(hc:Says w F (#[.agg #[x0,x1,x2]]++jz) r):
 Calls prog 121 #[G (O ⟨b,off,U⟩) 1 cap,.func (.func F) #[] jz] w (jL (I J z) w):=by
 have d0:w.cell? ⟨b,off,U⟩=O x0:=h 0 _ rfl;have d1:w.cell? ⟨b,off+1,U⟩=O x1:=h 1 _ rfl;have d2:w.cell? ⟨b,off+2,U⟩=O x2:=h 2 _ rfl;have KO:=hc.1;have HC:=aG hc.2;clear h hc;go_enter func121,ntmps121;go_wp2_with fail;refine wp_loop_rounds 2 ?_;rw[rounds_succ];rcases hz with⟨rfl,rfl⟩|⟨rfl,rfl⟩
 · go_wp2_with (go_at_fn F;refine(HC.o _ dE).mono ?_;rintro e w3 ⟨rfl,hb3⟩;have H3:=aG hb3;clear hb3)
   go_ret;exact⟨rfl,aq dE H3.o⟩
 · go_wp2_with (go_at_fn F;refine(HC.o _ dE).mono ?_;rintro e w3 ⟨rfl,hb3⟩;have H3:=aG hb3;clear hb3)
   rw[rounds_succ];go_wp2_with fail;go_ret;exact⟨rfl,aq dE H3.o⟩
theorem Vc(w:agb)(b off cap:Nat)(F:FuncId)(jz:Array R)(x0 x1 x2 x3 x4 x5 x6 x7:R)(r:Bool)(z:Int)(hz:(r=true/\z=0)\/(r=false/\z= -1))(hb:b<w.heap.size)(h:∀i v,(#[x0,x1,x2,x3,x4,x5,x6,x7]:Array R)[i]?=O v->w.cell? ⟨b,off+i,U⟩=O v)(hc:Says w F (#[.agg #[x0,x1,x2,x3,x4,x5,x6,x7]]++jz) r):
 Calls prog 123 #[G (O ⟨b,off,U⟩) 1 cap,.func (.func F) #[] jz] w (jL (I J z) w):=by
 have d0:w.cell? ⟨b,off,U⟩=O x0:=h 0 _ rfl;have d1:w.cell? ⟨b,off+1,U⟩=O x1:=h 1 _ rfl;have d2:w.cell? ⟨b,off+2,U⟩=O x2:=h 2 _ rfl;have d3:w.cell? ⟨b,off+3,U⟩=O x3:=h 3 _ rfl;have d4:w.cell? ⟨b,off+4,U⟩=O x4:=h 4 _ rfl;have d5:w.cell? ⟨b,off+5,U⟩=O x5:=h 5 _ rfl;have d6:w.cell? ⟨b,off+6,U⟩=O x6:=h 6 _ rfl;have d7:w.cell? ⟨b,off+7,U⟩=O x7:=h 7 _ rfl;have KO:=hc.1;have HC:=aG hc.2;clear h hc;go_enter func123,ntmps123;go_wp2_with fail;refine wp_loop_rounds 2 ?_;rw[rounds_succ];rcases hz with⟨rfl,rfl⟩|⟨rfl,rfl⟩
 · go_wp2_with (go_at_fn F;refine(HC.o _ dE).mono ?_;rintro e w3 ⟨rfl,hb3⟩;have H3:=aG hb3;clear hb3)
   go_ret;exact⟨rfl,aq dE H3.o⟩
 · go_wp2_with (go_at_fn F;refine(HC.o _ dE).mono ?_;rintro e w3 ⟨rfl,hb3⟩;have H3:=aG hb3;clear hb3)
   rw[rounds_succ];go_wp2_with fail;go_ret;exact⟨rfl,aq dE H3.o⟩
theorem QI(w:agb)(b off cap:Nat)(F:FuncId)(jz:Array R)(x0 x1 x2 x3 x4 x5 x6:R)(r:Bool)(z:Int)(hz:(r=true/\z=0)\/(r=false/\z= -1))(hb:b<w.heap.size)(h:∀i v,(#[x0,x1,x2,x3,x4,x5,x6]:Array R)[i]?=O v->w.cell? ⟨b,off+i,U⟩=O v)(hc:Says w F (#[.agg #[x0,x1,x2,x3,x4,x5,x6]]++jz) r):
 Calls prog 128 #[G (O ⟨b,off,U⟩) 1 cap,.func (.func F) #[] jz] w (jL (I J z) w):=by
 have d0:w.cell? ⟨b,off,U⟩=O x0:=h 0 _ rfl;have d1:w.cell? ⟨b,off+1,U⟩=O x1:=h 1 _ rfl;have d2:w.cell? ⟨b,off+2,U⟩=O x2:=h 2 _ rfl;have d3:w.cell? ⟨b,off+3,U⟩=O x3:=h 3 _ rfl;have d4:w.cell? ⟨b,off+4,U⟩=O x4:=h 4 _ rfl;have d5:w.cell? ⟨b,off+5,U⟩=O x5:=h 5 _ rfl;have d6:w.cell? ⟨b,off+6,U⟩=O x6:=h 6 _ rfl;have KO:=hc.1;have HC:=aG hc.2;clear h hc;go_enter func128,ntmps128;go_wp2_with fail;refine wp_loop_rounds 2 ?_;rw[rounds_succ];rcases hz with⟨rfl,rfl⟩|⟨rfl,rfl⟩
 · go_wp2_with (go_at_fn F;refine(HC.o _ dE).mono ?_;rintro e w3 ⟨rfl,hb3⟩;have H3:=aG hb3;clear hb3)
   go_ret;exact⟨rfl,aq dE H3.o⟩
 · go_wp2_with (go_at_fn F;refine(HC.o _ dE).mono ?_;rintro e w3 ⟨rfl,hb3⟩;have H3:=aG hb3;clear hb3)
   rw[rounds_succ];go_wp2_with fail;go_ret;exact⟨rfl,aq dE H3.o⟩
theorem Vf(w:agb)(f:R):Calls prog 177 #[G U 0 0,f] w (jL (I J (-1)) w):=by go_enter func177,ntmps177;go_wp2_with fail;refine wp_loop_rounds 1 ?_;rw[rounds_succ];go_wp2_with fail;go_ret;exact⟨rfl,aA _ _⟩
theorem Vg(w:agb)(b off cap:Nat)(F:FuncId)(jz:Array R)(x0 x1 x2 x3:R)(r:Bool)(z:Int)(hz:(r=true/\z=0)\/(r=false/\z= -1))(hb:b<w.heap.size)(h:∀i v,(#[x0,x1,x2,x3]:Array R)[i]?=O v->w.cell? ⟨b,off+i,U⟩=O v)(hc:Says w F (#[.agg #[x0,x1,x2,x3]]++jz) r):
 Calls prog 177 #[G (O ⟨b,off,U⟩) 1 cap,.func (.func F) #[] jz] w (jL (I J z) w):=by
 have d0:w.cell? ⟨b,off,U⟩=O x0:=h 0 _ rfl;have d1:w.cell? ⟨b,off+1,U⟩=O x1:=h 1 _ rfl;have d2:w.cell? ⟨b,off+2,U⟩=O x2:=h 2 _ rfl;have d3:w.cell? ⟨b,off+3,U⟩=O x3:=h 3 _ rfl;have KO:=hc.1;have HC:=aG hc.2;clear h hc;go_enter func177,ntmps177;go_wp2_with fail;refine wp_loop_rounds 2 ?_;rw[rounds_succ];rcases hz with⟨rfl,rfl⟩|⟨rfl,rfl⟩
 · go_wp2_with (go_at_fn F;refine(HC.o _ dE).mono ?_;rintro e w3 ⟨rfl,hb3⟩;have H3:=aG hb3;clear hb3)
   go_ret;exact⟨rfl,aq dE H3.o⟩
 · go_wp2_with (go_at_fn F;refine(HC.o _ dE).mono ?_;rintro e w3 ⟨rfl,hb3⟩;have H3:=aG hb3;clear hb3)
   rw[rounds_succ];go_wp2_with fail;go_ret;exact⟨rfl,aq dE H3.o⟩
theorem Vh(w:agb)(f:R):Calls prog 116 #[G U 0 0,f] w (jL (.bool false) w):=by go_enter func116,ntmps116;go_wp2_with (go_at_call 177;refine(Vf _ _).mono ?_;rintro e w3 ⟨rfl,hb3⟩;have H3:=aG hb3;clear hb3);go_ret;exact⟨rfl,H3.o⟩
theorem KW(w:agb)(b off cap:Nat)(F:FuncId)(jz:Array R)(x0 x1 x2 x3:R)(r:Bool)(hb:b<w.heap.size)(h:∀i v,(#[x0,x1,x2,x3]:Array R)[i]?=O v->w.cell? ⟨b,off+i,U⟩=O v)(hc:Says w F (#[.agg #[x0,x1,x2,x3]]++jz) r):
 Calls prog 116 #[G (O ⟨b,off,U⟩) 1 cap,.func (.func F) #[] jz] w (jL (.bool r) w):=by
 have HC:Hid (Calls prog 177 #[G (O ⟨b,off,U⟩) 1 cap,.func (.func F) #[] jz] w (jL (I J (cond r 0 (-1))) w)):=aG (Vg w b off cap F jz x0 x1 x2 x3 r _ (by cases r<;>simp) hb h hc);clear h hc;cases r<;>simp only[cond_true,cond_false] at HC
 · go_enter func116,ntmps116
   go_wp2_with (go_at_call 177;refine HC.o.mono ?_;rintro e w3 ⟨rfl,hb3⟩;have H3:=aG hb3;clear hb3);go_ret;exact⟨rfl,H3.o⟩
 · go_enter func116,ntmps116
   go_wp2_with (go_at_call 177;refine HC.o.mono ?_;rintro e w3 ⟨rfl,hb3⟩;have H3:=aG hb3;clear hb3);go_ret;exact⟨rfl,H3.o⟩
theorem M6(w:agb)(b off cap:Nat)(F:FuncId)(jz:Array R)(x0 x1:R)(r:Bool)(z:Int)(hz:(r=true/\z=0)\/(r=false/\z= -1))(hb:b<w.heap.size)(h:∀i v,(#[x0,x1]:Array R)[i]?=O v->w.cell? ⟨b,off+i,U⟩=O v)(hc:Says w F (#[.agg #[x0,x1]]++jz) r):
 Calls prog 178 #[G (O ⟨b,off,U⟩) 1 cap,.func (.func F) #[] jz] w (jL (I J z) w):=by
 have d0:w.cell? ⟨b,off,U⟩=O x0:=h 0 _ rfl;have d1:w.cell? ⟨b,off+1,U⟩=O x1:=h 1 _ rfl;have KO:=hc.1;have HC:=aG hc.2;clear h hc;go_enter func178,ntmps178;go_wp2_with fail;refine wp_loop_rounds 2 ?_;rw[rounds_succ];rcases hz with⟨rfl,rfl⟩|⟨rfl,rfl⟩
 · go_wp2_with (go_at_fn F;refine(HC.o _ dE).mono ?_;rintro e w3 ⟨rfl,hb3⟩;have H3:=aG hb3;clear hb3)
   go_ret;exact⟨rfl,aq dE H3.o⟩
 · go_wp2_with (go_at_fn F;refine(HC.o _ dE).mono ?_;rintro e w3 ⟨rfl,hb3⟩;have H3:=aG hb3;clear hb3)
   rw[rounds_succ];go_wp2_with fail;go_ret;exact⟨rfl,aq dE H3.o⟩
theorem Ep(w:agb)(b off cap:Nat)(F:FuncId)(jz:Array R)(x0 x1:R)(r:Bool)(hb:b<w.heap.size)(h:∀i v,(#[x0,x1]:Array R)[i]?=O v->w.cell? ⟨b,off+i,U⟩=O v)(hc:Says w F (#[.agg #[x0,x1]]++jz) r):
 Calls prog 119 #[G (O ⟨b,off,U⟩) 1 cap,.func (.func F) #[] jz] w (jL (.bool r) w):=by
 have HC:Hid (Calls prog 178 #[G (O ⟨b,off,U⟩) 1 cap,.func (.func F) #[] jz] w (jL (I J (cond r 0 (-1))) w)):=aG (M6 w b off cap F jz x0 x1 r _ (by cases r<;>simp) hb h hc);clear h hc;cases r<;>simp only[cond_true,cond_false] at HC
 · go_enter func119,ntmps119
   go_wp2_with (go_at_call 178;refine HC.o.mono ?_;rintro e w3 ⟨rfl,hb3⟩;have H3:=aG hb3;clear hb3);go_ret;exact⟨rfl,H3.o⟩
 · go_enter func119,ntmps119
   go_wp2_with (go_at_call 178;refine HC.o.mono ?_;rintro e w3 ⟨rfl,hb3⟩;have H3:=aG hb3;clear hb3);go_ret;exact⟨rfl,H3.o⟩
theorem Gv(w:agb)(f:R):Calls prog 179 #[G U 0 0,f] w (jL (I J (-1)) w):=by go_enter func179,ntmps179;go_wp2_with fail;refine wp_loop_rounds 1 ?_;rw[rounds_succ];go_wp2_with fail;go_ret;exact⟨rfl,aA _ _⟩
theorem QJ(w:agb)(f:R):Calls prog 125 #[G U 0 0,f] w (jL (.bool false) w):=by go_enter func125,ntmps125;go_wp2_with (go_at_call 179;refine(Gv _ _).mono ?_;rintro e w3 ⟨rfl,hb3⟩;have H3:=aG hb3;clear hb3);go_ret;exact⟨rfl,H3.o⟩
end
end Go.Proofs.YtbcpcneadjcmlaaGreatDoor
