import Derived.Test.YtbcpcneadjcmlaaGreatDoorK27
namespace Go.Proofs.YtbcpcneadjcmlaaGreatDoor
open Go.Proofs.Tryz
set_option maxRecDepth 100000
set_option maxHeartbeats 16000000
set_option linter.unusedVariables false
set_option linter.unusedSimpArgs false
open Value renaming int→I,slice→G
open IntKind renaming i64→J
open Obj renaming cells→D
open Option renaming some→O,none→U
open Go renaming Value→R,World→agb
section
open Go.RowKit Go.Maps
attribute [local go_sem] aQ aC bW
abbrev xfC:Array R:=#[I J 0,I J 30,I J 0,I J 0,I J 0,I J 0,I J 0,I J 0,I J 2,I J 0]
abbrev yfC:Array R:=#[I J 0,I J 15,I J 0,I J 0,I J 0,I J 0,I J 0,I J 0,I J 2,I J 0]
theorem VP{α:Type}{T:Ty α}{e:TypeId}{X:agb}{base B:Nat}{A:dB}{n c:Nat}{qs:List α}(h:cH T e X base B (G A n c) qs):qs.length<=c/\c<=maxLen:=by
 obtain⟨A',c',e4,h1,h2⟩:=h.form;injection e4 with e41 e42 Yc
 subst Yc;exact⟨h1,h2⟩
structure Rx(w:agb)(H:Hx)(b1:Nat)(X:agb):Prop where
 low:aZ w X
 h:fS H X
 el:ic Ji X (O ⟨H.gl,0,U⟩) [leX H]
 bk:Bk X b1 (yM H) 26
theorem Rx.keep{w X X':agb}{H:Hx}{b1:Nat}(h:Rx w H b1 X)(hb:aZ X X'):Rx w H b1 X':=
 ⟨h.low.trans (hb.mono h.low.size),h.h.keep hb,h.el.keep hb hb.size,h.bk.below hb⟩
structure Ry(w:agb)(H:Hx)(b1 b4:Nat)(A4:dB)(c4:Nat)(X:agb):Prop where
 x:Rx w H b1 X
 el:ic Fu X A4 SP
 bk:Bk X b4 #[G A4 4 c4] 29
theorem Ry.keep{w X X':agb}{H:Hx}{b1 b4:Nat}{A4:dB}{c4:Nat}(h:Ry w H b1 b4 A4 c4 X)(hb:aZ X X'):Ry w H b1 b4 A4 c4 X':=
 ⟨h.x.keep hb,h.el.keep hb hb.size,h.bk.below hb⟩
structure Rz(w:agb)(H:Hx)(b1 b4 b7:Nat)(A4 A7:dB)(c4 c7:Nat)(X:agb):Prop where
 y:Ry w H b1 b4 A4 c4 X
 el:ic se X A7 oz
 bk:Bk X b7 #[G A7 4 c7] 38
theorem Rz.keep{w X X':agb}{H:Hx}{b1 b4 b7:Nat}{A4 A7:dB}{c4 c7:Nat}(h:Rz w H b1 b4 b7 A4 A7 c4 c7 X)(hb:aZ X X'):Rz w H b1 b4 b7 A4 A7 c4 c7 X':=
 ⟨h.y.keep hb,h.el.keep hb hb.size,h.bk.below hb⟩
structure Rt(w:agb)(H:Hx)(b1 b4 b7 b9:Nat)(A4 A7 A8 A9:dB)(c4 c7 c8 c9:Nat)(T:List Nd)(Lv:List Dk)(X:agb):Prop where
 z:Rz w H b1 b4 b7 A4 A7 c4 c7 X
 e1:ic vH X A8 (T.map pA)
 e2:ic Hm X A9 Lv
 bk:Bk X b9 #[G A8 T.length c8,G A9 Lv.length c9] 56
theorem Rt.keep{w X X':agb}{H:Hx}{b1 b4 b7 b9:Nat}{A4 A7 A8 A9:dB}{c4 c7 c8 c9:Nat}{T:List Nd}{Lv:List Dk}(h:Rt w H b1 b4 b7 b9 A4 A7 A8 A9 c4 c7 c8 c9 T Lv X)(hb:aZ X X'):Rt w H b1 b4 b7 b9 A4 A7 A8 A9 c4 c7 c8 c9 T Lv X':=
 ⟨h.z.keep hb,h.e1.keep hb hb.size,h.e2.keep hb hb.size,h.bk.below hb⟩
theorem acC{w X:agb}{H:Hx}{b1 b4:Nat}{A4:dB}{c4:Nat}(h:Ry w H b1 b4 A4 c4 X)(hc:4<=c4/\c4<=maxLen):
 Calls prog 9 #[.agg #[G A4 4 c4],.agg (yM H)] X λ e X'=>aZ X X'/\∃A7 c7 A c,e=.returned (.tuple #[.agg #[G A7 4 c7],G A 0 c])/\ic se X' A7 oz:=by
 have hcm:c4<=9223372036854775807:=by have :=hc.2;unfold maxLen at this;omega
 refine(Ao A4 SP c4 ⟨#[104]⟩ 0 0 (O ⟨H.gl,0,U⟩) [leX H] H.cl X X.heap.size h.el h.x.el (ah _) cj hc.1 hcm cj bY (by intro l hl;simp only[aN] at hl;subst hl;show 1+1<=50;decide) LX (Gw H)).mono ?_;rintro e X' ⟨hb,A1,c1,A2,c2,rfl,h1,h2⟩;refine⟨hb,A1,c1,A2,c2,?_,h1⟩;have e1:(jx LX SP).length=4:=Nh;rw[e1,YH];rfl
theorem agN{w X:agb}{H:Hx}{b1 b4 b7:Nat}{A4 A7:dB}{c4 c7:Nat}(h:Rz w H b1 b4 b7 A4 A7 c4 c7 X)(ht:nu X):
 Calls prog 13 #[.agg #[G A7 4 c7]] X λ e X'=>aZ X X'/\∃(T:List Nd) (Lv:List Dk) (A1:dB) (c1:Nat) (A2:dB) (c2:Nat),e=.returned (.tuple #[.agg #[G A1 T.length c1,G A2 Lv.length c2],I J 0])/\ic vH X' A1 (T.map pA)/\ic Hm X' A2 Lv/\mU (bc oz) aP (iK oz) T Lv:=by
 refine(Gj A7 oz c7 4 X h.el Nh cj ht (bm OJ cj)).mono ?_;rintro e X' ⟨hb,h2⟩;rw[if_pos Iu] at h2;rcases h2 with⟨h3,_⟩|⟨T,Lv,A1,c1,A2,c2,rfl,k1,k2,k3,k4,k5⟩
 · exact absurd OJ ar
 · exact⟨hb,T,Lv,A1,c1,A2,c2,rfl,k1,k2,k5⟩
theorem agO{w X:agb}{H:Hx}{b1 b4 b7 b9:Nat}{A4 A7 A8 A9:dB}{c4 c7 c8 c9:Nat}{T:List Nd}{Lv:List Dk}(h:Rt w H b1 b4 b7 b9 A4 A7 A8 A9 c4 c7 c8 c9 T Lv X)(hT:mU (bc oz) aP (iK oz) T Lv)(ht:nu X):
 Calls prog 14 #[.agg #[G A7 4 c7],.agg #[G A8 T.length c8,G A9 Lv.length c9]] X λ e X'=>e=.returned (.tuple #[.agg zfC,.bool false])/\aZ X X':=by
 have :=Eb A7 A8 A9 c7 c8 c9 oz T Lv X h.z.el Iu hT h.e1 h.e2 ht (bm OJ cj);rwa [Nh] at this
theorem acD{w X:agb}{H:Hx}{b1 b4 b7 b9:Nat}{A4 A7 A8 A9:dB}{c4 c7 c8 c9:Nat}{T:List Nd}{Lv:List Dk}(h:Rt w H b1 b4 b7 b9 A4 A7 A8 A9 c4 c7 c8 c9 T Lv X):
 Calls prog 19 #[.agg #[G A7 4 c7]] X λ e X'=>aZ X X'/\∃g off c,e=.returned (G (O ⟨g,off,U⟩) 2 c)/\g<X'.heap.size/\
  X'.cell? ⟨g,off,U⟩=O (I J 1)/\X'.cell? ⟨g,off+1,U⟩=O (I J 3)/\X'.cell? ⟨g,off+13,U⟩=O (I J 3):=by
 have :=Ir A7 oz c7 X h.z.el (by rw[Nh];decide) (bm OJ cj);rw[Nh] at this;refine this.mono ?_;rintro e X' ⟨hb,A,c,qs,rfl,h1,h2⟩;rw[if_pos Iu] at h2;obtain⟨g1,g2,rfl⟩:=Y6 h2;obtain⟨b,off,cs,rfl,hb1,hr,hc⟩:=h1 0 bY;obtain⟨b2,WB,cs2,e2,hb2,hr2,hc2⟩:=h1 1 bY;cases e2
 obtain⟨k1,r1,rfl,⟨rfl,_⟩,k2,r2,rfl,⟨rfl,_⟩,_⟩:=hr;obtain⟨k3,r3,rfl,⟨rfl,_⟩,_⟩:=hr2;refine⟨hb,b,off,c,rfl,hb1,?_,?_,?_⟩
 · have :=hc 0 _ rfl
   simpa using this
 · have :=hc 1 _ rfl
   simpa using this
 · have :=hc2 0 _ rfl
   have e3:EN.n=13:=rfl;rw[e3] at this;simpa using this
theorem VQ(f:Fc)(C:Array R)(hC:(iK oz f).1.toArray=C)(hf:f.length=10)(qd:∀a,fits (eO f a))(lY:ik aP f){w X:agb}{H:Hx}{b1 b4 b7 b9:Nat}{A4 A7 A8 A9:dB}{c4 c7 c8 c9:Nat}{T:List Nd}{Lv:List Dk}(h:Rt w H b1 b4 b7 b9 A4 A7 A8 A9 c4 c7 c8 c9 T Lv X)(hT:mU (bc oz) aP (iK oz) T Lv)(ht:nu X)(F:Array R)(hF:iw f=F):
 Calls prog 15 #[.agg #[G A8 T.length c8,G A9 Lv.length c9],.agg F] X λ e X'=>e=.returned (.agg C)/\aZ X X':=by
 subst hC hF;exact Em A8 A9 c8 c9 T Lv f X hT h.e1 h.e2 ht agH hf qd lY
theorem acE{w X:agb}{H:Hx}{b1 b4:Nat}{A4:dB}{c4:Nat}(h:Ry w H b1 b4 A4 c4 X)(AW:dB)(cw:Nat)(hW:ic (eF Fs) X AW Xc.2.2.1):
 Calls prog 12 #[.agg #[I J 1,.string ⟨#[97]⟩,G AW 2 cw,I J 0,I J 0,I J 0,I J 0,I J 0,I J 0],.agg (yM H),.agg xfC] X λ e X'=>e=.returned (.bool true)/\aZ X X':=
 K7 1 ⟨#[97]⟩ AW Xc.2.2.1 cw 0 0 0 0 0 0 ⟨#[104]⟩ 0 0 (O ⟨H.gl,0,U⟩) [leX H] H.cl xF X X.heap.size hW h.x.el (ah _) cj bY (by intro l hl;simp only[aN] at hl;subst hl;show 1+1<=50;decide) LX (Gw H) rfl ak5 true ak4
theorem acF{X:agb}{A4:dB}(h:ic Fu X A4 SP):∃g off AW cw,A4=O ⟨g,off,U⟩/\g<X.heap.size/\ic (eF Fs) X AW Xc.2.2.1/\
 X.cell? ⟨g,off,U⟩=O (I J 1)/\X.cell? ⟨g,off+1,U⟩=O (.string ⟨#[97]⟩)/\X.cell? ⟨g,off+2,U⟩=O (G AW 2 cw)/\X.cell? ⟨g,off+3,U⟩=O (I J 0)/\X.cell? ⟨g,off+4,U⟩=O (I J 0)/\X.cell? ⟨g,off+5,U⟩=O (I J 0)/\X.cell? ⟨g,off+6,U⟩=O (I J 0)/\X.cell? ⟨g,off+7,U⟩=O (I J 0)/\X.cell? ⟨g,off+8,U⟩=O (I J 0):=by
 obtain⟨b,off,kd,nm,AW,ws,cw,n,rn,rd,sn,sd,fR,rfl,hb,hx,d0,d1,d2,d3,d4,d5,d6,d7,d8,_,_,hW,_⟩:=xN h (k:=0) cj;have hx:=hx.o;have h0:SP[0]?=O Xc:=rfl;rw[h0] at hx;have hx:=aO hx;unfold Xc at hx;simp only[Prod.mk.injEq] at hx;obtain⟨rfl,rfl,rfl,rfl,⟨rfl,rfl⟩,⟨rfl,rfl⟩,rfl⟩:=hx;rw[Nat.zero_mul,Nat.add_zero] at d0 d1 d2 d3 d4 d5 d6 d7 d8;exact⟨b,off,AW,cw,rfl,hb,hW.o,d0,d1,d2,d3,d4,d5,d6,d7,d8⟩
theorem acG(al tg si:Bool)(lim price fn fd tn td cn cd sn sd rn rd y:Int)(w:agb):(Instr.field 63 (.agg #[.bool al,.bool tg,.bool si,I J lim,I J price,I J fn,I J fd,I J tn,I J td,I J cn,I J cd,I J sn,I J sd,I J rn,I J rd,I J y]) 0).run prog w=.ok (.bool al) w:=aV
attribute [local go_sem] acG
theorem IB(w:agb)(ht:nu w):Calls prog 5 #[] w (jL (.bool true) w):=by
 have HT:=aG ht;clear ht;go_enter func5,ntmps5;go_upto_region 2 with(go_at_call 20;refine(aaO _).mono ?_;rintro r Y ⟨v,rfl,hm,hb⟩;obtain⟨H,rfl,hH,hE⟩:=hm.reads;have HY:=fH hH hE hb;clear hm hH hE hb);obtain⟨b1,hb1⟩:∃x,Y.heap.size=x:=⟨_,rfl⟩;rw[hb1];have hbl:=aj Y (D (yM H) 26);refine forget (λ X=>Rx w H b1 X) ⟨HY.t2.trans (hbl.mono HY.t2.size),HY.q1.keep hbl,HY.q2.keep hbl hbl.size,au _ _ _ _ hb1⟩ ?_;clear hbl hb1 HY;clear Y;intro X1 h1;obtain⟨c1,l1⟩:=h1.bk.cl0;have H1:=aG h1;clear h1;go_upto_region 3 with(go_at_call 21;refine(YR _ H H1.o.h).mono ?_;rintro e X2 ⟨⟨A2,k2,rfl⟩,hb⟩;have H2:=aG (H1.o.keep hb);clear hb);clear c1 l1 H1;clear X1;go_upto_region 4 with(go_at_call 22;refine(aaS _).mono ?_;rintro e X3 ⟨A4,c4,rfl,ho,hb⟩;have H3:=fH (H2.o.keep hb) (ho.elems (ah _) (ah _)) (show 4<=c4/\c4<=maxLen from VP ho);clear ho hb);clear H2;clear X2;obtain⟨b4,hb4⟩:∃x,X3.heap.size=x:=⟨_,rfl⟩;rw[hb4];have hbl:=aj X3 (D #[G A4 4 c4] 29);have Ov:=H3.t2;refine forget (λ X=>Ry w H b1 b4 A4 c4 X) ⟨H3.q1.keep hbl,H3.q2.keep hbl hbl.size,au _ _ _ _ hb4⟩ ?_;clear hbl hb4 H3;clear X3;intro X4 h4;obtain⟨c1,l1⟩:=h4.x.bk.cl0;obtain⟨c4',l4⟩:=h4.bk.cl0;have H4:=dt h4 Ov;clear h4 Ov;go_upto_region 5 with(go_at_call 9;refine(acC H4.q1 H4.t1).mono ?_;rintro e X5 ⟨hb,A7,c7,A8,c8,rfl,hE⟩;have H5:=dt (H4.q1.keep hb) hE;clear hb hE);clear c1 l1 c4' l4 H4;clear X4;obtain⟨b7,Lg⟩:∃x,X5.heap.size=x:=⟨_,rfl⟩;rw[Lg];have hbl:=aj X5 (D #[G A7 4 c7] 38);refine forget (λ X=>Rz w H b1 b4 b7 A4 A7 c4 c7 X) ⟨H5.q1.keep hbl,H5.t1.keep hbl hbl.size,au _ _ _ _ Lg⟩ ?_;clear hbl Lg H5;clear X5;intro X6 h6;obtain⟨c7',l7⟩:=h6.bk.cl0;have H6:=aG h6;clear h6;go_upto_region 6 with(go_at_call 13;refine(agN H6.o (HT.o.below H6.o.y.x.low)).mono ?_;rintro e X7 ⟨hb,T,Lv,A9,c9,A0,c0,rfl,e1,e2,e3⟩;have H7:=iM (H6.o.keep hb) e1 e2 e3;clear hb e1 e2 e3);clear c7' l7 H6;clear X6;obtain⟨b9,kY⟩:∃x,X7.heap.size=x:=⟨_,rfl⟩;rw[kY];have hbl:=aj X7 (D #[G A9 T.length c9,G A0 Lv.length c0] 56)
 have HK:=aG H7.t3;refine forget (λ X=>Rt w H b1 b4 b7 b9 A4 A7 A9 A0 c4 c7 c9 c0 T Lv X) ⟨H7.q1.keep hbl,H7.q2.keep hbl hbl.size,H7.q3.keep hbl hbl.size,au _ _ _ _ kY⟩ ?_;clear hbl kY H7;clear X7;intro X8 h8;obtain⟨c7',l7⟩:=h8.z.bk.cl0;obtain⟨c9',l9⟩:=h8.bk.cl0;have H8:=aG h8;clear h8;go_upto_region 8 with fail;go_upto_region 9 with(go_at_call 14;refine(agO H8.o HK.o (HT.o.below H8.o.z.y.x.low)).mono ?_;rintro e X9 ⟨rfl,hb⟩;have H9:=aG (H8.o.keep hb);clear hb);clear c7' l7 c9' l9 H8;clear X8;refine forget (λ X=>Rt w H b1 b4 b7 b9 A4 A7 A9 A0 c4 c7 c9 c0 T Lv X) (H9.o.keep dE) ?_;clear H9;intro X10 h10;have H10:=aG h10;clear h10;go_upto_region 12 with fail;obtain⟨b13,acH⟩:∃x,X10.heap.size=x:=⟨_,rfl⟩;have pX:=au X10 b13 xfC 31 acH;have hbl:=aj X10 (D xfC 31);rw[acH];refine forget (λ X=>Rt w H b1 b4 b7 b9 A4 A7 A9 A0 c4 c7 c9 c0 T Lv X/\Bk X b13 xfC 31) ⟨H10.o.keep hbl,pX⟩ ?_;clear acH pX hbl H10;clear X10;rintro X11 ⟨h11,k11⟩;obtain⟨c7',l7⟩:=h11.z.bk.cl0;have H11:=dt h11 k11;clear h11 k11;go_upto_region 13 with(go_at_call 19;refine(acD H11.q1).mono ?_;rintro e X12 ⟨hb,gf,of_,cf,rfl,q1,q2,q3,q4⟩;have N2:=uF (H11.q1.keep hb) (H11.t1.below hb) q1 q2 q3 q4;clear hb q1 q2 q3 q4);clear c7' l7 H11;clear X11;obtain⟨c13,l13⟩:=N2.q2.cl0;go_upto_region 15 with fail;clear c13 l13;obtain⟨b15,acI⟩:∃x,X12.heap.size=x:=⟨_,rfl⟩;have pX:=au X12 b15 yfC 31 acI;have hbl:=aj X12 (D yfC 31);rw[acI];refine forget (λ X=>Rt w H b1 b4 b7 b9 A4 A7 A9 A0 c4 c7 c9 c0 T Lv X/\Bk X b13 xfC 31/\Bk X b15 yfC 31/\gf<X.heap.size/\X.cell? ⟨gf,of_,U⟩=O (I J 1)/\X.cell? ⟨gf,of_+1,U⟩=O (I J 3)/\X.cell? ⟨gf,of_+13,U⟩=O (I J 3)) ⟨N2.q1.keep hbl,N2.q2.below hbl,pX,?_,?_,?_,?_⟩ ?_
 · exact dI N2.q3 hbl.size
 · exact(hbl.cell (p:=⟨gf,of_,U⟩) N2.q3).trans N2.q4
 · exact(hbl.cell (p:=⟨gf,of_+1,U⟩) N2.q3).trans N2.q5
 · exact(hbl.cell (p:=⟨gf,of_+13,U⟩) N2.q3).trans N2.t5
 clear acI pX hbl N2;clear X12;rintro X ⟨Li,k13,k15,lf,f1,f2,f3⟩;obtain⟨gi,oi,AW,cw,rfl,li,hW,i0,i1,i2,i3,i4,i5,i6,i7,i8⟩:=acF Li.z.y.el;obtain⟨c1,l1⟩:=Li.z.y.x.bk.cl0;have c4':X.cell? ⟨b4,0,U⟩=O (G (O ⟨gi,oi,U⟩) 4 c4):=Li.z.y.bk.cell 0;have l4:=Li.z.y.bk.lt;obtain⟨c9',l9⟩:=Li.bk.cl0;obtain⟨c13,l13⟩:=k13.cl0;obtain⟨c15,l15⟩:=k15.cl0;obtain⟨xtg,xsi,asw,alm,xfn,xfd,xtn,xtd,xcn,xcd,xsn,xsd,xrn,xrd,xy,hx⟩:=Ey xF true ak6;obtain⟨ytg,ysi,asx,aln,yfn,yfd,ytn,ytd,ycn,ycd,ysn,ysd,yrn,yrd,yy,hy⟩:=Ey yF false ak7;have HX:=iM Li hW (HT.o.below Li.z.y.x.low) Li.z.y.x.low;clear Li k13 k15 hW;have CX:=aG (λ u=>VQ xF _ hx rfl acy VM (HX.q1.keep (aT X u)) HK.o (HX.q3.below (aT X u)) xfC rfl);have CY:=aG (λ u=>VQ yF _ hy rfl acz VN (HX.q1.keep (aT X u)) HK.o (HX.q3.below (aT X u)) yfC rfl);have CA:=aG (λ u=>acE (HX.q1.keep (aT X u)).z.y AW cw (HX.q2.keep (aT X u) (aT X u).size));clear hx hy;refine bJ X aV aV ?_;repeat(go_big_quiet_step ((first|(go_at_call 15;first|(with_reducible exact iL (CX.o _))|(with_reducible exact iL (CY.o _)))|(go_at_call 12;with_reducible exact iL (CA.o _)))))
 refine wpQuiet_nil (λ v=>?_);go_wp2_with fail;go_ret;exact⟨rfl,Below.jN HX.t3 _⟩
end
section
open Go.RowKit
def tE(L:Nm)(ts:List Ts)(z:Zn):Prop:=z.length=10/\∀a,a<10->
 ((atR z a).1=(atR mH a).1\/∃t∈ts,(eI L t).2.1=a/\((atR z a).1=(eI L t).2.2\/(atR z a).1=(eI L t).2.2+1))/\
 ((atR z a).2=(atR mH a).2\/∃t∈ts,(eI L t).2.1=a/\((atR z a).2+1=(eI L t).2.2\/(atR z a).2+1=(eI L t).2.2+1))
theorem tE.mono{L:Nm}{ts us:List Ts}{z:Zn}(h:tE L ts z)(hs:∀t∈ts,t∈us):tE L us z:=
 ⟨h.1,λ a ha=>⟨(h.2 a ha).1.imp id λ⟨t,ht,k⟩=>⟨t,hs t ht,k⟩,(h.2 a ha).2.imp id λ⟨t,ht,k⟩=>⟨t,hs t ht,k⟩⟩⟩
theorem aeO{Z Z':List Zn}(h:∀z∈Z',z∈Z):il (cA Z' aP) 10<=il (cA Z aP) 10:=by
 refine DJ (λ a=>?_) 10;have h1:=lU Z' aP a (List.range (Z'.length+1));have h2:=lU Z aP a (List.range (Z.length+1));refine rP h1.1 λ x hx=>(h2.2.2 x).2 ?_;have hx:=(h1.2.2 x).1 hx;unfold fI at hx⊢;rcases aR.1 hx with rfl|hx
 · exact dA ..
 · obtain⟨z,_,hz⟩:=dP.1 hx
   refine di _ (dP.2 ?_);by_cases hlt:z<Z'.length
   · have hm:dK Z' z∈Z:=h _ (by
      unfold dK;rw[av,af hlt];exact cD _)
     obtain⟨k,hk,e⟩:=bo.1 hm;refine⟨k,bG.2 ar,?_⟩
     have e3:dK Z k=dK Z' z:=by rw[<-e];unfold dK;rw[av,af hk];rfl
     rw[e3];exact hz
   · refine⟨Z.length,bG.2 ar,?_⟩
     have e:dK Z' z=dK Z Z.length:=by unfold dK;rw[av,av,cX ar,cX (ah _)]
     rw[<-e];exact hz
end
end Go.Proofs.YtbcpcneadjcmlaaGreatDoor
