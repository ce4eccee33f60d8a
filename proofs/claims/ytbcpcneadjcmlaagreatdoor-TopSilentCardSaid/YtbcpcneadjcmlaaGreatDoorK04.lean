import Derived.Test.YtbcpcneadjcmlaaGreatDoorK03
import Derived.Defers
import Derived.Recover
namespace Go.Proofs.YtbcpcneadjcmlaaGreatDoor
open Go.Proofs.Tryz
set_option maxRecDepth 100000
set_option maxHeartbeats 16000000
set_option linter.unusedVariables false
set_option linter.unusedSimpArgs false
open Value renaming int→I,slice→G,pointer→M
open IntKind renaming i64→J
open Obj renaming cells→D
open Option renaming some→O,none→U
open Go renaming Value→R,World→agb
section
open Go.RowKit Go.ChangeAt
attribute [local go_sem] aQ aC bW kC kD
def Pu(T:List Tok)(w:agb)(r:Ending)(w':agb):Prop:=∃A c,r=.returned (.tuple #[G A T.length c,I J 0,I J 0])/\ic Jq w' A T/\(∀g off,A=O ⟨g,off,U⟩->w.heap.size<=g/\g<w'.heap.size/\off=0)/\T.length<=c/\aZ w w'
theorem JE(a b c:Nat)(w:agb):CallsD prog 106 #[M (O ⟨a,0,U⟩),M (O ⟨b,0,U⟩),M (O ⟨c,0,U⟩)] .returning w λ e u' w'=>e=.returned (.tuple #[])/\u'=.returning/\w'=w:=by
 refine callsD_of_wpS func106 rfl λ LS cs hu=>?_;apply wpS_seq
 apply wpS_region
 simp[wpOpsS,go_sem,recoverD,hu,ntmps106,Exit.thenS];refine wpS_of_wp ?_;simp only[Array.replicate,List.replicate,dS,iD,iE,lu,eU,eV];go_wp2_with fail;cases LS
 simp_all [bodyPostS,results,results106]
abbrev Rb:Array R:=#[.string ⟨#[]⟩,I J 0,I J 0,G U 0 0]
theorem W7(W:agb)(JF:∀X,Calls prog 70 #[.string sF] X (Pu dX X)):
 Calls prog 58 #[.string sF] W λ r W'=>∃vl vr v2 v3 v4 v6,r=.returned (.tuple #[.agg #[.string ⟨#[104]⟩,I J 0,I J 0,vl],I J 0,I J 0])/\W'.ownsRow W.heap.size 85 8 vl 1 [.string ⟨#[108,111,119]⟩,I J 0,v2,v3,v4,G U 0 0,v6,I J 19]/\
  W'.ownsRow W.heap.size 166 8 vr 1 fT.toList/\W'.ownsRow W.heap.size 163 3 v2 1 [.string ⟨#[98]⟩,vr,I J 69]/\W'.ownsRow W.heap.size 171 7 v3 1 (qW 2).toList/\W'.ownsRow W.heap.size 169 4 v4 1 [I J 10,I J 0,I J 18,I J 30]/\W'.ownsRow W.heap.size 23 2 v6 1 [I J 10,I J 0]/\aZ W W':=by
 have C9:∀(fn:Fn)(first cap:Array R)(w:agb),(Instr.makeFunc fn first cap).run prog w=.ok (.func fn first cap) w:=λ _ _ _ _=>rfl;have HL:=aG JF;have VY:sF.size=147:=by decide+kernel
 generalize sF=TS at *;clear JF;go_enter_defers func58,ntmps58
 go_upto_region 1 with fail;obtain⟨hb,rK⟩:∃x,W.heap.size=x:=⟨_,rfl⟩;obtain⟨eb,zh⟩:∃x,hb+1=x:=⟨_,rfl⟩;obtain⟨ab,hab⟩:∃x,eb+1=x:=⟨_,rfl⟩
 have hY:Bk (((W.alloc (D Rb 26)).alloc (D #[I J 0] 57)).alloc (D #[I J 0] 3)) hb Rb 26/\Bk (((W.alloc (D Rb 26)).alloc (D #[I J 0] 57)).alloc (D #[I J 0] 3)) eb #[I J 0] 57/\Bk (((W.alloc (D Rb 26)).alloc (D #[I J 0] 57)).alloc (D #[I J 0] 3)) ab #[I J 0] 3/\aZ W (((W.alloc (D Rb 26)).alloc (D #[I J 0] 57)).alloc (D #[I J 0] 3)):=
  ⟨((au _ _ _ _ rK).alloc _).alloc _,(au _ _ _ _ gW).alloc _,au _ _ _ _ gW,dE⟩
 rw[rK,zh,hab];refine forget (λ X=>Bk X hb Rb 26/\Bk X eb #[I J 0] 57/\Bk X ab #[I J 0] 3/\aZ W X) hY ?_;clear hY;rintro X ⟨h0,h1,h2,h3⟩;have HX:=iM h0 h1 h2 h3;have e1:eb≠ab:=ar;have e2:hb≠eb:=ar;have e3:hb≠ab:=ar;have HN:=fH rK zh hab;clear h0 h1 h2 h3 rK zh hab;go_upto_region 2 with(go_at_call 70;refine(HL.o _).mono ?_;rintro r Y ⟨A,c,rfl,hE,hA,hc,hb⟩;have HB:=iM hE hA hc hb;have b3:=HX.q2.below hb;have b4:=HX.q3.below hb;have c3:=b3.cell;have c4:=b4.cell;have f3:=b3.free;have f4:=b4.free;have l3:=b3.lt;have l4:=b4.lt;have HY:=dt b3 b4;clear b3 b4 hE hA hc hb);clear c3 c4 f3 f4 l3 l4
 have hY2:Only (λ g=>g=eb\/g=ab) Y ((Y.setCell ⟨eb,0,U⟩ (I J 0)).setCell ⟨ab,0,U⟩ (I J 0)):=
  ((Only.refl (λ g=>g=eb\/g=ab) Y).aS (p:=⟨eb,0,U⟩) (.inl (.inl rfl)) _).aS (p:=⟨ab,0,U⟩) (.inl (.inr rfl)) _
 have hx3:=HX.t3;have hz3:=HX.q1.lt;have Rc:=HX.q3.lt;have h0:=HX.q1.below HB.t3;have h1:=(HY.q1.aS 0 (I J 0)).far (p:=⟨ab,0,U⟩) e1 (I J 0);have h2:=(HY.t1.far (p:=⟨eb,0,U⟩) (λ e=>e1 e.symm) (I J 0)).aS 0 (I J 0);have Pv:aZ W Y:=aq hx3 HB.t3;refine forget (λ Z=>Bk Z hb Rb 26/\Bk Z eb #[I J 0] 57/\Bk Z ab #[I J 0] 3/\Only (λ g=>g=eb\/g=ab) Y Z) ⟨h0.only hY2 ar,h1,h2,hY2⟩ ?_;clear hY2 h0 h1 h2 HY;rintro Z ⟨h0,h1,h2,h3⟩;have c3:=h1.cell 0;have l3:=h1.lt;obtain⟨pb,oU⟩:∃x,Z.heap.size=x:=⟨_,rfl⟩;have hzs:=h3.size;have HZ:=lQ h0 h1 h2 h3 oU;clear h0 h1 h2 h3;have hgl:(⟨#[104,97,108,108]⟩:BA0).size=4:=rfl;go_upto_region 6 with fail
 have hL:vd Z pb A dX c 147 hb 26 (λ X=>Bk X eb #[I J 0] 57/\Bk X ab #[I J 0] 3) 0 Rb (Z.alloc (D #[G A dX.length c,I J 0,I J 147] 231)):=by have q1:=HZ.q1.lt;have q2:=HZ.q2.lt;have q3:=HZ.q3.lt;have q4:=HZ.t4;have hE:cG Jq Z Y.heap.size A dX:=HB.q1.only mL HZ.q4 (ah _) (λ g off q=>by have :=HB.q2 g off q;have :=HX.q2.lt;omega);refine⟨⟨au _ _ _ _ oU,hE.keep ((aj Z _).mono ar) ar,λ g off q=>by have :=HB.q2 g off q;omega,HB.q3,cj⟩,HZ.q1.alloc _,⟨HZ.q2.alloc _,HZ.q3.alloc _⟩,aw (aj _ _),ar,λ g off q=>by have :=HB.q2 g off q;omega,λ X X' ho hk=>⟨hk.1.only ho ar,hk.2.only ho ar⟩⟩
 have HP:=uF oU hx3 hzs hz3 Rc Pv;refine forget (λ X=>vd Z pb A dX c 147 hb 26 (λ X=>Bk X eb #[I J 0] 57/\Bk X ab #[I J 0] 3) 0 Rb X) hL ?_;clear hL oU hx3 hzs hz3 Rc Pv c3 l3;intro X2 hL;have HS:=aG hL;have lb:=hL.b.lt;have fb:=hL.b.free;have cb:=hL.b.cell;clear hL;go_upto_region 8 with(first|(go_at_call 107;refine(jG _ _ _ dX _ _ 147 _ _ _ _ HS.o.p rfl rfl).mono ?_;rintro r X ⟨⟨v,rfl⟩,hg⟩;replace HS:=aG (HS.o.go hg);clear hg)|(go_at_call 108;refine(pJ _ _ _ dX _ _ 147 _ _ _ _ HS.o.p rfl).mono ?_;rintro r X ⟨rfl,hg⟩;replace HS:=aG (HS.o.go hg);have lb:=HS.o.b.lt;have fb:=HS.o.b.free;have cb:=HS.o.b.cell;clear hg));replace HS:=aG (HS.o.aS 0 (.string ⟨#[104]⟩));clear lb fb cb;go_upto_region 11 with(first|(go_at_call 107;refine(jG _ _ _ dX _ _ 147 _ _ _ _ HS.o.p rfl rfl).mono ?_;rintro r X ⟨⟨v,rfl⟩,hg⟩;replace HS:=aG (HS.o.go hg);clear hg)|(go_at_call 109;refine(mM HS.o.p [(1,0),(2,0)] 2 HS.o.b aV HS.o.ne HS.o.na rfl ar bY).mono ?_;rintro r X ⟨⟨v,rfl⟩,hg⟩;replace HS:=aG (HS.o.Jw hg);clear hg));refine wp_loop_rounds 2 ?_;rw[rounds_succ];go_upto_region 12 with(go_at_call 110;refine(FC _ _ _ dX _ _ 147 _ _ _ _ _ HS.o.p rfl rfl rfl).mono ?_;rintro r X ⟨rfl,hg⟩;replace HS:=aG (HS.o.grow hg);clear hg);have lr:=HS.o.b.lt;have cr:=HS.o.b.cell;have hne:=HS.o.ne;have xb:∀u i,(jP (O pb) X u).cell? ⟨hb,i,U⟩=(#[.string ⟨#[104]⟩,I J 0,I J 0,G U 0 0]:Array R)[i]?:=λ u i=>(fE hb i lr (λ e=>hne (aO e).symm)).trans (cr i);have mj:=aG HS.o.drew;have HO:Hid (Only (λ g=>O pb=O g) X X.drew):=aG ((Only.refl _ _).drew);refine ed (S:=λ w'=>∃u,w'=jP (O pb) X u) [([0,1,2],[3,4,5]),([6],[])] 7 aV aV (dT HO.o) ?_;(refine bT (λ K9 h9=>?_);simp only[aH,aU,aW,aa,ae];(repeat(go_big_quiet_step (fail)));refine wpQuiet_nil (h9 _ ?_);clear h9 K9)
 (refine cM (λ K9 h9=>?_);simp only[aW,aa,ae])
 go_wp2_with (go_at_call 111;refine(WX _ _ _ _ mj.o.p).mono ?_;rintro r X1 ⟨vr,v2,v3,v4,v6,rfl,o1,o2,o3,o4,o6,hg⟩;obtain⟨a2,c2,rfl,-,-⟩:=fM o2;obtain⟨a3,c3,rfl,-,-⟩:=fM o3;obtain⟨a4,c4,rfl,-,-⟩:=fM o4;obtain⟨a6,c6,rfl,-,-⟩:=fM o6;replace HO:=aG (HO.o.trans (GU hg));replace mj:=aG (mj.o.go hg);have HW:=lQ o1 o2 o3 o4 o6;clear hg o1 o2 o3 o4 o6);refine h9 _ _ (dT HO.o) ?_;clear h9 K9;(refine cM (λ K9 h9=>?_);simp only[aW,aa,ae])
 refine jo (by rfl) _ 85 _ (by rfl) #[.string ⟨#[108,111,119]⟩,I J 0,G a2 1 c2,G a3 1 c3,G a4 1 c4,G U 0 0,G a6 1 c6,I J 19] (by rfl) underlying24 aV bY bY aV ?_;show K9 _ _;go_simp;have BZ:=Bk.new X1 #[.string ⟨#[108,111,119]⟩,I J 0,G a2 1 c2,G a3 1 c3,G a4 1 c4,G U 0 0,G a6 1 c6,I J 19] 85;replace HO:=aG (HO.o.alloc (D #[.string ⟨#[108,111,119]⟩,I J 0,G a2 1 c2,G a3 1 c3,G a4 1 c4,G U 0 0,G a6 1 c6,I J 19] 85));replace mj:=aG (mj.o.grow (aj X1 (D #[.string ⟨#[108,111,119]⟩,I J 0,G a2 1 c2,G a3 1 c3,G a4 1 c4,G U 0 0,G a6 1 c6,I J 19] 85)));refine h9 _ _ (dT HO.o) ?_;clear h9 K9;(refine cM (λ K9 h9=>?_);simp only[aW,aa,ae])
 refine mh rfl _ _ _ rfl 85 152 #[.string ⟨#[108,111,119]⟩,I J 0,G a2 1 c2,G a3 1 c3,G a4 1 c4,G U 0 0,G a6 1 c6,I J 19] underlying24 aV bY rfl X1.heap.size rfl BZ aV cj ?_;intro A8 c8 w8 ew eM;show K9 _ _;go_simp;obtain⟨lo,nA⟩:∃x,X.heap.size=x:=⟨_,rfl⟩;have hrow:=jr ew (b2:=X.heap.size) HO.o.size;have Ad:aZ X1 w8:=aq (aj X1 _) eM;replace HO:=aG (HO.o.below (eM.mono (by have :=HO.o.size;exact this)));replace mj:=aG (mj.o.grow eM);have kk:∀(e n:Nat)(v:R)(xs:List R),X1.ownsRow X.drew.heap.size e n v 1 xs->w8.ownsRow X.heap.size e n v 1 xs:=λ e n v xs h=>ee (S:=λ _=>False) h (aw Ad) (λ _ _ q=>q);have HR:=uF hrow (kk _ _ _ _ HW.q1) (kk _ _ _ _ HW.q2) (kk _ _ _ _ HW.q3) (kk _ _ _ _ HW.q4) (kk _ _ _ _ HW.t4);rw[nA] at HR;refine h9 _ _ (dT HO.o) ?_;clear h9 K9 ew eM hrow BZ kk Ad HW;refine bU ?_;(refine bT (λ K9 h9=>?_);simp only[aH,aU,aW,aa,ae];(repeat(go_big_quiet_step (fail)));refine wpQuiet_nil (h9 _ ?_);clear h9 K9)
 refine bU (dF ?_);simp only[aW,aa,ae];clear xb HO cr;have lr1:=mj.o.b.lt;have cr:=mj.o.b.cell;have fr:=mj.o.b.free;have hpl:=HS.o.p.lt;have yY:=HS.o.o.size;have HM:=dt nA yY;rw[nA] at hpl lr;clear nA;go_wp2_with fail;rw[rounds_succ];have hst:∀Z Z',Only (λ g=>g=pb\/g=hb) Z Z'->((Bk Z eb #[I J 0] 57/\Bk Z ab #[I J 0] 3)/\Z.ownsRow lo 85 8 (G A8 1 c8) 1 [.string ⟨#[108,111,119]⟩,I J 0,G a2 1 c2,G a3 1 c3,G a4 1 c4,G U 0 0,G a6 1 c6,I J 19]/\Z.ownsRow lo 166 8 vr 1 fT.toList/\Z.ownsRow lo 163 3 (G a2 1 c2) 1 [.string ⟨#[98]⟩,vr,I J 69]/\Z.ownsRow lo 171 7 (G a3 1 c3) 1 (qW 2).toList/\Z.ownsRow lo 169 4 (G a4 1 c4) 1 [I J 10,I J 0,I J 18,I J 30]/\Z.ownsRow lo 23 2 (G a6 1 c6) 1 [I J 10,I J 0])->((Bk Z' eb #[I J 0] 57/\Bk Z' ab #[I J 0] 3)/\Z'.ownsRow lo 85 8 (G A8 1 c8) 1 [.string ⟨#[108,111,119]⟩,I J 0,G a2 1 c2,G a3 1 c3,G a4 1 c4,G U 0 0,G a6 1 c6,I J 19]/\Z'.ownsRow lo 166 8 vr 1 fT.toList/\Z'.ownsRow lo 163 3 (G a2 1 c2) 1 [.string ⟨#[98]⟩,vr,I J 69]/\Z'.ownsRow lo 171 7 (G a3 1 c3) 1 (qW 2).toList/\Z'.ownsRow lo 169 4 (G a4 1 c4) 1 [I J 10,I J 0,I J 18,I J 30]/\Z'.ownsRow lo 23 2 (G a6 1 c6) 1 [I J 10,I J 0]):=λ Z Z' ho hk=>⟨mj.o.st _ _ ho hk.1,kE hpl lr _ _ ho hk.2.1,kE hpl lr _ _ ho hk.2.2.1,kE hpl lr _ _ ho hk.2.2.2.1,kE hpl lr _ _ ho hk.2.2.2.2.1,kE hpl lr _ _ ho hk.2.2.2.2.2.1,kE hpl lr _ _ ho hk.2.2.2.2.2.2⟩;have hL:=((mj.o.acu (F':=λ Z=>(Bk Z eb #[I J 0] 57/\Bk Z ab #[I J 0] 3)/\Z.ownsRow lo 85 8 (G A8 1 c8) 1 [.string ⟨#[108,111,119]⟩,I J 0,G a2 1 c2,G a3 1 c3,G a4 1 c4,G U 0 0,G a6 1 c6,I J 19]/\Z.ownsRow lo 166 8 vr 1 fT.toList/\Z.ownsRow lo 163 3 (G a2 1 c2) 1 [.string ⟨#[98]⟩,vr,I J 69]/\Z.ownsRow lo 171 7 (G a3 1 c3) 1 (qW 2).toList/\Z.ownsRow lo 169 4 (G a4 1 c4) 1 [I J 10,I J 0,I J 18,I J 30]/\Z.ownsRow lo 23 2 (G a6 1 c6) 1 [I J 10,I J 0]) ⟨mj.o.f,HR.o⟩ hst).aS 3 (G A8 1 c8));refine forget (λ X=>vd Z pb A dX c 147 hb 26 (λ Z=>(Bk Z eb #[I J 0] 57/\Bk Z ab #[I J 0] 3)/\Z.ownsRow lo 85 8 (G A8 1 c8) 1 [.string ⟨#[108,111,119]⟩,I J 0,G a2 1 c2,G a3 1 c3,G a4 1 c4,G U 0 0,G a6 1 c6,I J 19]/\Z.ownsRow lo 166 8 vr 1 fT.toList/\Z.ownsRow lo 163 3 (G a2 1 c2) 1 [.string ⟨#[98]⟩,vr,I J 69]/\Z.ownsRow lo 171 7 (G a3 1 c3) 1 (qW 2).toList/\Z.ownsRow lo 169 4 (G a4 1 c4) 1 [I J 10,I J 0,I J 18,I J 30]/\Z.ownsRow lo 23 2 (G a6 1 c6) 1 [I J 10,I J 0]) 47 #[.string ⟨#[104]⟩,I J 0,I J 0,G A8 1 c8] X) hL ?_
 clear hL mj HS HR lr1 cr fr hst;clear w8;intro X9 hL;have HS:=aG hL;clear hL;go_upto_region 13 with(go_at_call 110;refine(GR _ _ _ dX _ _ 147 _ _ _ _ HS.o.p rfl rfl).mono ?_;rintro r X ⟨rfl,hg⟩;replace HS:=aG (HS.o.go hg);clear hg);have ao9:¬(48:Int)<(dX.length:Int):=cj;have c0:=HS.o.p.blk.cell 0;have c1:=HS.o.p.blk.cell 1;have WY:=HS.o.p.lt;refine bJ _ aV aV ?_;repeat(go_big_quiet_step (fail))
 refine wpQuiet_nil (λ v=>?_);replace HS:=aG (HS.o.grow (aT _ v));clear c0 c1 WY;go_upto_region 15 with fail;have hL:=HS.o;refine forget (λ X=>vd Z pb A dX c 147 hb 26 (λ Z=>(Bk Z eb #[I J 0] 57/\Bk Z ab #[I J 0] 3)/\Z.ownsRow lo 85 8 (G A8 1 c8) 1 [.string ⟨#[108,111,119]⟩,I J 0,G a2 1 c2,G a3 1 c3,G a4 1 c4,G U 0 0,G a6 1 c6,I J 19]/\Z.ownsRow lo 166 8 vr 1 fT.toList/\Z.ownsRow lo 163 3 (G a2 1 c2) 1 [.string ⟨#[98]⟩,vr,I J 69]/\Z.ownsRow lo 171 7 (G a3 1 c3) 1 (qW 2).toList/\Z.ownsRow lo 169 4 (G a4 1 c4) 1 [I J 10,I J 0,I J 18,I J 30]/\Z.ownsRow lo 23 2 (G a6 1 c6) 1 [I J 10,I J 0]) 48 #[.string ⟨#[104]⟩,I J 0,I J 0,G A8 1 c8] X) hL ?_;clear hL HS;clear v;intro XE hL;have HS:=aG hL;have cb:=hL.b.cell;have fb:=hL.b.free;have lb:=hL.b.lt;have c3:=hL.f.1.1.cell 0;have f3:=hL.f.1.1.free 0;have l3:=hL.f.1.1.lt;have c4:=hL.f.1.2.cell 0;have f4:=hL.f.1.2.free 0;have l4:=hL.f.1.2.lt;clear hL;go_wp2_with fail;clear cb fb lb c3 f3 l3 c4 f4 l4;refine leaves_cons (f:=106) (args:=#[M (O ⟨hb,0,U⟩),M (O ⟨eb,0,U⟩),M (O ⟨ab,0,U⟩)]) bY (by simp[go_sem]) ?_;refine(JE hb eb ab _).mono ?_;rintro e u' w'' ⟨rfl,rfl,hw⟩;obtain⟨rK,zh,hab⟩:=HN.o;obtain⟨nA,yY⟩:=HM.o;obtain⟨oU,hx3,hzs,hz3,Rc,Pv⟩:=HP.o;have w1:=iA (b:=hb) [.string ⟨#[104]⟩,I J 0,I J 0,G A8 1 c8] 0 XE;have w2:Only (λ g=>g=hb\/g=eb\/g=ab) XE (((xS XE hb 0 [.string ⟨#[104]⟩,I J 0,I J 0,G A8 1 c8]).setCell ⟨eb,0,U⟩ (I J 0)).setCell ⟨ab,0,U⟩ (I J 0)):=((w1.mono λ g hg=>Or.inl hg).aS (p:=⟨eb,0,U⟩) (.inl (.inr (.inl rfl))) _).aS (p:=⟨ab,0,U⟩) (.inl (.inr (.inr rfl))) _;have hwo:Only (λ g=>g=hb\/g=eb\/g=ab) XE w'':=by rw[hw];exact w2
 have bF:Bk w'' hb #[.string ⟨#[104]⟩,I J 0,I J 0,G A8 1 c8] 26:=by rw[hw];exact(((jF HS.o.b #[.string ⟨#[104]⟩,I J 0,I J 0,G A8 1 c8] rfl).far (p:=⟨eb,0,U⟩) e2 (I J 0)).far (p:=⟨ab,0,U⟩) e3 (I J 0))
 have bE:Bk w'' eb #[I J 0] 57:=by rw[hw];exact(((HS.o.f.1.1.only w1 ar).aS 0 (I J 0)).far (p:=⟨ab,0,U⟩) e1 (I J 0))
 have bA:Bk w'' ab #[I J 0] 3:=by rw[hw];exact(((HS.o.f.1.2.only w1 ar).far (p:=⟨eb,0,U⟩) (λ e=>e1 e.symm) (I J 0)).aS 0 (I J 0))
 clear hw w1 w2;have hzz:=HZ.q3.lt;have k0:=HS.o.f.2;have kk:∀(e n:Nat)(v:R)(xs:List R),XE.ownsRow lo e n v 1 xs->w''.ownsRow W.heap.size e n v 1 xs:=λ e n v xs h=>jr (ee h hwo λ g hg=>by have :=(jd h hg).1;omega) ar;have bI:aZ W w'':=((Pv.trans (HZ.q4.aK (λ g hg=>ar) Pv.size)).trans (HS.o.o.aK (λ g hg=>ar) ar)).trans (hwo.aK (λ g hg=>ar) (by have :=HS.o.o.size;omega));have HE:=yJ (kk _ _ _ _ k0.1) (kk _ _ _ _ k0.2.1) (kk _ _ _ _ k0.2.2.1) (kk _ _ _ _ k0.2.2.2.1) (kk _ _ _ _ k0.2.2.2.2.1) (kk _ _ _ _ k0.2.2.2.2.2) bI;have cF:=bF.cell;have cE:=bE.cell;have cA:=bA.cell;have lF:=bF.lt;have lE:=bE.lt;have lA:=bA.lt;clear bF bE bA kk bI k0 hwo rK zh hab nA yY oU hx3 hzs hz3 Rc Pv HS;simp[Leaves,settle,results,results58,go_sem,cF,cE,cA,lF,lE,lA];exact⟨vr,G a2 1 c2,G a3 1 c3,G a4 1 c4,G a6 1 c6,HE.o⟩
def NR(base:Nat)(X:agb)(v:R):Prop:=∃vl vr v2 v3 v4 v6,v=.agg #[.string ⟨#[104]⟩,I J 0,I J 0,vl]/\X.ownsRow base 85 8 vl 1 [.string ⟨#[108,111,119]⟩,I J 0,v2,v3,v4,G U 0 0,v6,I J 19]/\
 X.ownsRow base 166 8 vr 1 fT.toList/\X.ownsRow base 163 3 v2 1 [.string ⟨#[98]⟩,vr,I J 69]/\X.ownsRow base 171 7 v3 1 (qW 2).toList/\X.ownsRow base 169 4 v4 1 [I J 10,I J 0,I J 18,I J 30]/\X.ownsRow base 23 2 v6 1 [I J 10,I J 0]
theorem Pw(W:agb)(JF:∀X,Calls prog 70 #[.string sF] X (Pu dX X)):
 Calls prog 20 #[] W λ r W'=>∃v,r=.returned v/\NR W.heap.size W' v/\aZ W W':=by
 have hp:=λ X=>W7 X JF;have HP:=aG hp;clear hp JF;go_enter func20,ntmps20;go_upto_region 2 with(go_at_call 58;refine(HP.o _).mono ?_;rintro r Y ⟨vl,vr,v2,v3,v4,v6,rfl,o1,o2,o3,o4,o5,o6,hb⟩;obtain⟨al,cl,rfl,-,-⟩:=fM o1;have HY:=yJ o1 o2 o3 o4 o5 o6 hb;clear o1 o2 o3 o4 o5 o6 hb);have h0:Bk Y W.heap.size Rb 26:=(Bk.new W Rb 26).below HY.t6;have c0:=h0.cell;have f0:=h0.free;have l0:=h0.lt;have H0:=aG h0;clear h0;go_wp2_with fail;have Zq:aZ W Y:=aq (aj W _) HY.t6;have hw:=iA (b:=W.heap.size) [.string ⟨#[104]⟩,I J 0,I J 0,G al 1 cl] 0 Y;have hld:=(Bk.load (P:=prog) ((jF H0.o #[.string ⟨#[104]⟩,I J 0,I J 0,G al 1 cl] rfl).alloc (D #[.string ⟨#[104]⟩,I J 0,I J 0,G al 1 cl] 26)) underlying26 rfl aV);have kk:∀(e n:Nat)(v:R)(xs:List R),Y.ownsRow (W.alloc (D Rb 26)).heap.size e n v 1 xs->((xS Y W.heap.size 0 [.string ⟨#[104]⟩,I J 0,I J 0,G al 1 cl]).alloc (D #[.string ⟨#[104]⟩,I J 0,I J 0,G al 1 cl] 26)).ownsRow W.heap.size e n v 1 xs:=λ e n v xs h=>jr (ee h (hw.alloc _) (λ g hg=>by have :=(jd h hg).1;simp at this;omega)) bY;refine bodyPost_ret (gD (p:=⟨W.heap.size,0,U⟩) rfl rfl hld) rfl ⟨_,rfl,?_,?_⟩
 · exact⟨G al 1 cl,vr,v2,v3,v4,v6,rfl,kk _ _ _ _ HY.q1,kk _ _ _ _ HY.q2,kk _ _ _ _ HY.q3,kk _ _ _ _ HY.q4,kk _ _ _ _ HY.q5,kk _ _ _ _ HY.q6⟩
 · exact ay (fV Zq hw (ah _)) _
theorem ve.apart{lo g:Nat}{X X':agb}{v:R}{od:List (List Ts)}{C:Array R}(h:ve lo X v od)(hk:Bk X g C 52)(ho:Only (λ x=>x=g) X X'):ve lo X' v od:=by
 obtain⟨vs,h1,h2,h3⟩:=h;refine⟨vs,h1,ee h2 ho λ g' II e=>?_,λ i u ws a b=>?_⟩
 · obtain⟨C',Jz⟩:=wm h2 II
   subst e;have q:O (Obj.cells C' 86 (0,0))=O (Obj.cells C 52 (0,0)):=(show X.heap[g']?=_ from Jz).symm.trans hk;cases q
 · refine ee (h3 i u ws a b) ho λ g' II e=>?_
   obtain⟨C',Jz⟩:=wm (h3 i u ws a b) II;subst e;have q:O (Obj.cells C' 109 (0,0))=O (Obj.cells C 52 (0,0)):=(show X.heap[g']?=_ from Jz).symm.trans hk;cases q
theorem ET.apart{lo g:Nat}{X X':agb}{v:R}{od:List (List Ts)}{C:Array R}(h:ET lo X v od)(hk:Bk X g C 52)(ho:Only (λ x=>x=g) X X'):ET lo X' v od:=h.imp id λ h=>h.apart hk ho
theorem ET.form{lo:Nat}{X:agb}{v:R}{od:List (List Ts)}(h:ET lo X v od):∃A n c,v=G A n c:=by
 rcases h with⟨_,rfl⟩|h
 · exact⟨_,_,_,rfl⟩
 · obtain⟨A,c,e⟩:=h.form
   exact⟨_,_,_,e⟩
def rL(v:R)(x:It):List R:=[I J x.1,.string x.2.1,v,I J x.2.2.2.1,I J x.2.2.2.2.1.1,I J x.2.2.2.2.1.2,I J x.2.2.2.2.2.1.1,I J x.2.2.2.2.2.1.2,I J x.2.2.2.2.2.2]
def GY(lo:Nat)(X:agb)(v:R)(its:List It):Prop:=
 ∃vs:List R,vs.length=its.length/\X.ownsRow lo 52 9 v its.length (List.zipWith rL vs its).flatten/\∀(i:Nat)(u:R)(x:It),vs[i]?=O u->its[i]?=O x->ET lo X u x.2.2.1
section
variable{lo:Nat}{X X':agb}{v:R}{its:List It}
theorem GY.nil:GY lo X (G U 0 0) []:=⟨[],rfl,uK,λ i u x h=>by simp at h⟩
theorem GY.only{S:Nat->Prop}(h:GY lo X v its)(ho:Only S X X')(hS:∀g,S g->g<lo):GY lo X' v its:=by obtain⟨vs,h1,h2,h3⟩:=h;exact⟨vs,h1,ee h2 ho (λ g hg hs=>by have :=(jd h2 hg).1;have :=hS g hs;omega),λ i u x a b=>(h3 i u x a b).only ho hS⟩
theorem GY.mono{LO:Nat}(h:GY lo X v its)(hl:LO<=lo):GY LO X v its:=by obtain⟨vs,h1,h2,h3⟩:=h;exact⟨vs,h1,jr h2 hl,λ i u x a b=>(h3 i u x a b).mono hl⟩
end
def qY(T:List Tok)(k:Nat)(x:It)(k':Nat):Prop:=
 ∃kw n0 n1 a1 d k3 k4 n5 a5,T[k]?=O (1,kw,n0,x.2.2.2.2.2.2)/\fJ kw JA=O (I J x.1)/\T[k+1]?=O (1,x.2.1,n1,a1)/\Sy T (k+2) x.1 x.2.2.2.1 d k3/\Sz T k3 x.2.2.1 k4/\T[k4]?=O (3,⟨#[59]⟩,n5,a5)/\k'=k4+1/\k<k'/\x.2.2.2.2.1=(0,d)/\x.2.2.2.2.2.1=(0,d)
theorem W8(W:agb)(pb b:Nat)(T:List Tok)(c k k':Nat)(e:Int)(x:It)(h:pK W pb b T c k e)(ht:qY T k x k'):
 Calls prog 73 #[M (O ⟨pb,0,U⟩)] W λ r W'=>(∃A n c,r=.returned (.agg (rL (G A n c) x).toArray)/\ET W.heap.size W' (G A n c) x.2.2.1)/\wZ pb b T c k' e W W':=by
 obtain⟨kw,n0,n1,a1,d,k3,k4,n5,a5,h0,vB,h1,hr,hw,hs,rfl,-,er,es⟩:=ht;refine(SA W pb b T c k (k+1) (k+2) k3 k4 (k4+1) e x.1 n0 _ n1 a1 x.2.2.2.1 d n5 a5 kw x.2.1 x.2.2.1 h rfl rfl rfl h0 vB h1 hr hw hs).mono ?_;rintro r W' ⟨⟨v,rfl,hv⟩,hg⟩;obtain⟨A,n,c',rfl⟩:=hv.form;refine⟨⟨A,n,c',?_,hv⟩,hg⟩;unfold rL GX;rw[er,es]
def B4(T:List Tok):Nat->List It->Nat->Prop
 |k,[],k'=>k=k'
 |k,x::l,k'=>∃k1,qY T k x k1/\B4 T k1 l k'
theorem qY.lt{T:List Tok}{k k':Nat}{x:It}(h:qY T k x k'):k<T.length:=by obtain⟨_,_,_,_,_,_,_,_,_,h0,_⟩:=h;exact(ai.1 h0).1
theorem qY.lt2{T:List Tok}{k k':Nat}{x:It}(h:qY T k x k'):k<k':=by obtain⟨_,_,_,_,_,_,_,_,_,_,_,_,_,_,_,_,h,_⟩:=h;exact h
theorem SC{vs:List R}{its:List It}(h:vs.length=its.length)(u:R)(x:It):(List.zipWith rL (vs++[u]) (its++[x])).flatten=(List.zipWith rL vs its).flatten++rL u x:=by rw[List.zipWith_append h];simp
theorem JG(a b c:Nat)(w:agb):CallsD prog 71 #[M (O ⟨a,0,U⟩),M (O ⟨b,0,U⟩),M (O ⟨c,0,U⟩)] .returning w λ e u' w'=>e=.returned (.tuple #[])/\u'=.returning/\w'=w:=by
 refine callsD_of_wpS func71 rfl λ LS cs hu=>?_;apply wpS_seq
 apply wpS_region
 simp[wpOpsS,go_sem,recoverD,hu,ntmps71,Exit.thenS];refine wpS_of_wp ?_;simp only[Array.replicate,List.replicate,dS,iD,iE,lu,eU,eV];go_wp2_with fail;cases LS
 simp_all [bodyPostS,results,results71]
abbrev W9:Array R:=#[G U 0 0]
theorem LU(W:agb)(TS:BA0)(T:List Tok)(its:List It)(hT:B4 T 0 its T.length)(sy:0<T.length)(hi:its.length<=150)(ht5:T.length<=5000)(VY:(TS.size:Int)<=1000000)(JF:∀X,Calls prog 70 #[.string TS] X (Pu T X)):
 Calls prog 22 #[.string TS] W λ r W'=>∃A c,r=.returned (.tuple #[.agg #[G A its.length c],I J 0,I J 0])/\GY W.heap.size W' (G A its.length c) its/\aZ W W':=by
 have C9:∀(fn:Fn)(first cap:Array R)(w:agb),(Instr.makeFunc fn first cap).run prog w=.ok (.func fn first cap) w:=λ _ _ _ _=>rfl;have HL:=aG JF;have HT:=aG hT;clear JF hT;go_enter_defers func22,ntmps22
 go_upto_region 1 with fail;obtain⟨hb,rK⟩:∃x,W.heap.size=x:=⟨_,rfl⟩;obtain⟨eb,zh⟩:∃x,hb+1=x:=⟨_,rfl⟩;obtain⟨ab,hab⟩:∃x,eb+1=x:=⟨_,rfl⟩
 have hY:Bk (((W.alloc (D W9 29)).alloc (D #[I J 0] 57)).alloc (D #[I J 0] 3)) hb W9 29/\Bk (((W.alloc (D W9 29)).alloc (D #[I J 0] 57)).alloc (D #[I J 0] 3)) eb #[I J 0] 57/\Bk (((W.alloc (D W9 29)).alloc (D #[I J 0] 57)).alloc (D #[I J 0] 3)) ab #[I J 0] 3/\aZ W (((W.alloc (D W9 29)).alloc (D #[I J 0] 57)).alloc (D #[I J 0] 3)):=
  ⟨((au _ _ _ _ rK).alloc _).alloc _,(au _ _ _ _ gW).alloc _,au _ _ _ _ gW,dE⟩
 rw[rK,zh,hab];refine forget (λ X=>Bk X hb W9 29/\Bk X eb #[I J 0] 57/\Bk X ab #[I J 0] 3/\aZ W X) hY ?_;clear hY;rintro X ⟨h0,h1,h2,h3⟩;have HX:=iM h0 h1 h2 h3;have e1:eb≠ab:=ar;have e2:hb≠eb:=ar;have e3:hb≠ab:=ar;have HN:=fH rK zh hab;clear h0 h1 h2 h3 rK zh hab;go_upto_region 2 with(go_at_call 70;refine(HL.o _).mono ?_;rintro r Y ⟨A,c,rfl,hE,hA,hc,hb⟩;have HB:=iM hE hA hc hb;have b3:=HX.q2.below hb;have b4:=HX.q3.below hb;have c3:=b3.cell;have c4:=b4.cell;have f3:=b3.free;have f4:=b4.free;have l3:=b3.lt;have l4:=b4.lt;have HY:=dt b3 b4;clear b3 b4 hE hA hc hb);clear c3 c4 f3 f4 l3 l4
 have hY2:Only (λ g=>g=eb\/g=ab) Y ((Y.setCell ⟨eb,0,U⟩ (I J 0)).setCell ⟨ab,0,U⟩ (I J 0)):=
  ((Only.refl (λ g=>g=eb\/g=ab) Y).aS (p:=⟨eb,0,U⟩) (.inl (.inl rfl)) _).aS (p:=⟨ab,0,U⟩) (.inl (.inr rfl)) _
 have hx3:=HX.t3;have hz3:=HX.q1.lt;have Rc:=HX.q3.lt;have h0:=HX.q1.below HB.t3;have h1:=(HY.q1.aS 0 (I J 0)).far (p:=⟨ab,0,U⟩) e1 (I J 0);have h2:=(HY.t1.far (p:=⟨eb,0,U⟩) (λ e=>e1 e.symm) (I J 0)).aS 0 (I J 0);have Pv:aZ W Y:=aq hx3 HB.t3;refine forget (λ Z=>Bk Z hb W9 29/\Bk Z eb #[I J 0] 57/\Bk Z ab #[I J 0] 3/\Only (λ g=>g=eb\/g=ab) Y Z) ⟨h0.only hY2 ar,h1,h2,hY2⟩ ?_;clear hY2 h0 h1 h2 HY;rintro Z ⟨h0,h1,h2,h3⟩;have c3:=h1.cell 0;have l3:=h1.lt;obtain⟨pb,oU⟩:∃x,Z.heap.size=x:=⟨_,rfl⟩;have hzs:=h3.size;have HZ:=lQ h0 h1 h2 h3 oU;clear h0 h1 h2 h3;go_upto_region 6 with fail;obtain⟨lo,nA⟩:∃x,pb+1=x:=⟨_,rfl⟩;have hE:cG Jq Z Y.heap.size A T:=HB.q1.only mL HZ.q4 (ah _) (λ g off q=>by have :=HB.q2 g off q;have :=HX.q2.lt;omega);have hA0:=HB.q2;obtain⟨b,off,_,rfl,_⟩:=hE 0 sy;obtain⟨hb1,hb2,rfl⟩:=hA0 b off rfl
 have hL:xu Z pb b T c TS.size hb 29 (λ X=>(Bk X eb #[I J 0] 57/\Bk X ab #[I J 0] 3)/\GY lo X (G U 0 0) []) 0 W9 (Z.alloc (D #[G (O ⟨b,0,U⟩) T.length c,I J TS.size] 184)):=by have q1:=HZ.q1.lt;have q2:=HZ.q2.lt;have q3:=HZ.q3.lt;have q4:=HZ.t4;refine⟨⟨⟨0,au _ _ _ _ oU,λ _=>rfl⟩,hE.keep ((aj Z _).mono ar) ar,ar,HB.q3,ht5⟩,HZ.q1.alloc _,⟨⟨HZ.q2.alloc _,HZ.q3.alloc _⟩,GY.nil⟩,aw (aj _ _),ar,ar,λ X X' ho hk=>⟨⟨hk.1.1.only ho ar,hk.1.2.only ho ar⟩,GY.nil⟩⟩
 have hlp:pb<lo:=ar;have hlh:hb<lo:=by have :=HZ.q1.lt;omega
 have hph:hb≠pb:=by have :=HZ.q1.lt;omega
 have hpe:eb≠pb/\ab≠pb:=by have :=HZ.q2.lt;have :=HZ.q3.lt;omega
 have hle:eb<lo/\ab<lo:=by have :=HZ.q2.lt;have :=HZ.q3.lt;omega
 have hBZ:aZ W Z:=by obtain⟨rK,zh,hab⟩:=HN.o;exact Pv.trans (HZ.q4.aK (λ g hg=>ar) Pv.size)
 have HBZ:=aG hBZ;clear hBZ;have HP:=yJ oU hx3 hzs hz3 Rc Pv nA;refine forget (λ X=>xu Z pb b T c TS.size hb 29 (λ X=>(Bk X eb #[I J 0] 57/\Bk X ab #[I J 0] 3)/\GY lo X (G U 0 0) []) 0 W9 X) hL ?_;clear hL oU hx3 hzs hz3 Rc Pv c3 l3 hE hA0 HB HZ;intro X2 hL;have HS:=aG hL;clear hL;have JH:lo<=X2.heap.size:=by have :=HS.o.p.lt;have :=HP.t6;omega
 obtain⟨ir,zr,i1,i2,i3,i4,i5⟩:=kU (P:=prog) (e:=52) (size:=9) (bytes:=96) (c:=9) aV;have aad:=lQ i1 i2 i3 i4 i5;clear i1 i2 i3 i4 i5;go_loopw [] (λ wr=>∃(done rest:List It) (k:Nat) (A:dB) (cc:Nat),its=done++rest/\B4 T k rest T.length/\lo<=wr.heap.size/\xu Z pb b T c TS.size hb 29 (λ X=>(Bk X eb #[I J 0] 57/\Bk X ab #[I J 0] 3)/\GY lo X (G A done.length cc) done) k #[G A done.length cc] wr) (λ wr=>match wr.cell? ⟨pb,0,U⟩ with |some (G _ n _)=>n|_=>0)
 case atStart=>exact⟨[],its,0,U,0,rfl,HT.o,JH,HS.o⟩
 case round=>
  obtain⟨done,rest,k,A,cc,SD,hat,JH,hS⟩:=hrel;have HX8:=aG JH;clear HS JH;generalize wr=X at *;have HS:=aG hS;cases rest with
  |nil=>
   have hkT:k=T.length:=hat;rw[dU] at SD;subst SD;obtain⟨off,pX,-⟩:=hS.p.blk;have c0:=pX.cell 0;have lp:=pX.lt;have cb:=hS.v.cell;have fb:=hS.v.free;have lb:=hS.v.lt;have hE:=hS.f.1.1;have hB:=hS.f.1.2;have ce:=hE.cell 0;have fe:=hE.free 0;have le:=hE.lt;have ca:=hB.cell 0;have fa:=hB.free 0;have la:=hB.lt;have hl0:¬(0:Int)<((T.length - k:Nat):Int):=ar;clear hkT hS pX hE hB hat;have HS:=HS;go_wp2_with fail;clear c0 lp cb fb lb ce fe le ca fa la hl0;refine leaves_cons (f:=71) (args:=#[M (O ⟨hb,0,U⟩),M (O ⟨eb,0,U⟩),M (O ⟨ab,0,U⟩)]) bY (by simp[go_sem]) ?_;refine(JG hb eb ab _).mono ?_;rintro e u' w'' ⟨rfl,rfl,hw⟩;obtain⟨rK,zh,hab⟩:=HN.o;have oU:=HP.q1;have hs:=HS.o;have hBZ:=HBZ.o;have Zr:=hBZ.size;have apg:=HP.t6;have w2:Only (λ g=>g=hb\/g=eb\/g=ab) X (((X.setCell ⟨hb,0,U⟩ (G A its.length cc)).setCell ⟨eb,0,U⟩ (I J 0)).setCell ⟨ab,0,U⟩ (I J 0)):=(((Only.refl (λ g=>g=hb\/g=eb\/g=ab) X).aS (p:=⟨hb,0,U⟩) (.inl (.inl rfl)) _).aS (p:=⟨eb,0,U⟩) (.inl (.inr (.inl rfl))) _).aS (p:=⟨ab,0,U⟩) (.inl (.inr (.inr rfl))) _;have hwo:Only (λ g=>g=hb\/g=eb\/g=ab) X w'':=by rw[hw];exact w2
   have bF:Bk w'' hb #[G A its.length cc] 29:=by rw[hw];exact(((hs.v.aS 0 (G A its.length cc)).far (p:=⟨eb,0,U⟩) e2 (I J 0)).far (p:=⟨ab,0,U⟩) e3 (I J 0))
   have bE:Bk w'' eb #[I J 0] 57:=by rw[hw];exact(((hs.f.1.1.far (p:=⟨hb,0,U⟩) (λ e=>e2 e.symm) (G A its.length cc)).aS 0 (I J 0)).far (p:=⟨ab,0,U⟩) e1 (I J 0))
   have bA:Bk w'' ab #[I J 0] 3:=by rw[hw];exact(((hs.f.1.2.far (p:=⟨hb,0,U⟩) (λ e=>e3 e.symm) (G A its.length cc)).far (p:=⟨eb,0,U⟩) (λ e=>e1 e.symm) (I J 0)).aS 0 (I J 0))
   clear hw w2;have hIt:GY W.heap.size w'' (G A its.length cc) its:=(hs.f.2.only hwo (λ g hg=>ar)).mono ar;have bI:aZ W w'':=(hBZ.trans (hs.o.aK (λ g hg=>ar) hBZ.size)).trans (hwo.aK (λ g hg=>ar) (by have :=hs.o.size;omega));have HE:=dt hIt bI;have cF:=bF.cell;have cE:=bE.cell;have cA:=bA.cell;have lF:=bF.lt;have lE:=bE.lt;have lA:=bA.lt;clear bF bE bA hIt bI hwo rK zh hab oU hs hBZ HS;simp[Leaves,settle,results,results22,go_sem,cF,cE,cA,lF,lE,lA];exact⟨A,cc,⟨rfl,rfl⟩,HE.o⟩
  |cons x l=>
   obtain⟨k1,hx,hl⟩:=hat;have kq:=hx.lt;obtain⟨off,pX,-⟩:=hS.p.blk;have c0:=pX.cell 0;have lp:=pX.lt;obtain⟨cr,lr⟩:=hS.v.cl0;have hl0:(0:Int)<((T.length - k:Nat):Int):=ar;have hd:done.length+1<=its.length:=by rw[SD];simp
   have hne:((done.length:Int)==200)=false:=by simp;omega
   have HX9:=fH SD hx hl;have HV:=aG hS.v;have kW:=aG hS.p;have EU:hb≠pb:=hph;have xb:∀u i,(JD hb X u).cell? ⟨hb,i,U⟩=(#[G A done.length cc]:Array R)[i]?:=λ u i=>(Pt i).trans (cr i);have mj:=aG hS.drew;have Lf:=HX8.o;clear SD hx hl hS pX HS;go_upto_region 9 with fail;clear c0 lp;refine ed (S:=λ w'=>∃u,w'=JD hb X u) [([0,1,2],[3,4,5]),([6],[])] 7 aV aV (qA HV.o mj.o.v) ?_;(refine bT (λ K9 h9=>?_);simp only[aH,aU,aW,aa,ae];(repeat(go_big_quiet_step (fail)));refine wpQuiet_nil (h9 _ ?_);clear h9 K9)
   (refine cM (λ K9 h9=>?_);simp only[aW,aa,ae])
   go_wp2_with (go_at_call 73;refine(W8 _ pb b T c k k1 _ x mj.o.p HX9.q2).mono ?_;rintro r X1 ⟨⟨A5,n5,c5,rfl,hw⟩,hg⟩;have hz1:=hg.sizes;replace mj:=aG (mj.o.go hg);have HW:=aG hw;clear hg hw);refine h9 _ _ (qA HV.o mj.o.v) ?_;clear h9 K9;(refine cM (λ K9 h9=>?_);simp only[aW,aa,ae])
   refine jo (by rfl) _ 52 _ (by rfl) (rL (G A5 n5 c5) x).toArray (by rfl) underlying27 aV (by simp[rL]) (by simp[rL]) aV ?_;show K9 _ _;go_simp;have BZ:Cn (X1.alloc (D (rL (G A5 n5 c5) x).toArray 52)) (O ⟨X1.heap.size,0,U⟩) 1 (rL (G A5 n5 c5) x):=gL (Bk.new X1 (rL (G A5 n5 c5) x).toArray 52) 1;have hzX:X.drew.heap.size=X.heap.size:=rfl;have aaE:=aj X1 (D (rL (G A5 n5 c5) x).toArray 52);have hW1:ET lo (X1.alloc (D (rL (G A5 n5 c5) x).toArray 52)) (G A5 n5 c5) x.2.2.1:=(HW.o.only (aw (S:=λ _=>False) aaE) (λ _ h=>h.elim)).mono ar;replace mj:=aG (mj.o.grow aaE);obtain⟨X2,Px⟩:∃X2,X1.alloc (D (rL (G A5 n5 c5) x).toArray 52)=X2:=⟨_,rfl⟩;have hz2:X2.heap.size=X1.heap.size+1:=by rw[<-Px];simp
   rw[Px] at mj BZ hW1⊢;refine h9 _ _ (qA HV.o mj.o.v) ?_;clear h9 K9 aaE HW Px;obtain⟨vs,EI,hv2,hv3⟩:=mj.o.f.2;have Re:=fH EI hv2 hv3;clear EI hv2 hv3;(refine cM (λ K9 h9=>?_);simp only[aW,aa,ae])
   refine iG (v:=G A done.length cc) rfl _ _ _ rfl lo 52 ir zr 9 96 underlying27 aad.q1 aad.q2 aad.q3 aad.q4 aad.t4 cj done.length (List.zipWith rL vs done).flatten rfl Re.q2 (O ⟨X1.heap.size,0,U⟩) 1 1 (rL (G A5 n5 c5) x) rfl (by rfl) BZ (by intro u hu;simp only[rL,aR,bH,or_false] at hu;rcases hu with rfl|rfl|rfl|rfl|rfl|rfl|rfl|rfl|rfl<;>rfl) (by unfold maxLen;omega) ar ar (done.length+1) (List.zipWith rL (vs++[G A5 n5 c5]) (done++[x])).flatten rfl (SC Re.q1 _ _) ?_;intro A8 c8 w8 ew eM aaF _;show K9 _ _;go_simp
   have hI8:GY lo w8 (G A8 (done.length+1) c8) (done++[x]):=by
    refine⟨vs++[G A5 n5 c5],by simp[Re.q1],by simpa using ew,λ i u y hu hy=>?_⟩
    have hk:∀v y,ET lo X2 v y->ET lo w8 v y:=λ v y h=>by
     rcases Re.q2.2 with⟨e,_⟩|⟨g,cap,cur,e,_,hb,_⟩
     · exact h.only ((Only.refl (λ _=>False) X2).grown aaF (λ g hg=>by rw[e] at hg;simp[Value.ownBlock] at hg)) (λ _ h=>h.elim)
     · refine h.apart hb ((Only.refl (λ g'=>g'=g) X2).grown aaF (λ g' hg=>.inl ?_))
       rw[e] at hg;simp only[Value.ownBlock,cQ] at hg;exact hg.symm
    by_cases hi:i<vs.length
    · rw[bM hi] at hu
      rw[bM (by rw[<-Re.q1];exact hi)] at hy;exact hk _ _ (Re.t2 i u y hu hy)
    · have hi3:i=vs.length:=by
       have :=(ai.1 hu).1;simp at this;omega
      subst hi3;rw[bP (ah _)] at hu;rw[bP (by rw[Re.q1];exact ah _)] at hy;rw[Re.q1] at hy;simp only[Nat.sub_self,jH,cQ] at hu hy;subst hu hy;exact hk _ _ hW1
   have hZ0:=HP.q1;have nA:=HP.t6;have hz8:=eM.size
   have hR8:xu Z pb b T c TS.size hb 29 (λ X=>(Bk X eb #[I J 0] 57/\Bk X ab #[I J 0] 3)/\GY lo X (G A8 (done++[x]).length c8) (done++[x])) k1 #[G A done.length cc] w8:=by have h:=mj.o;refine⟨h.p.below eM hlp ar,(eM.block hb hlh).trans h.v,⟨⟨(eM.block eb ar).trans h.f.1.1,(eM.block ab ar).trans h.f.1.2⟩,by simpa using hI8⟩,h.o.below (eM.mono ar),h.ne,h.na,λ X X' ho hk=>⟨⟨hk.1.1.only ho ar,hk.1.2.only ho ar⟩,hk.2.only ho ar⟩⟩
   have aiE:lo<=w8.heap.size:=ar;have hv8:=hR8.v;replace mj:=aG hR8;clear hR8 hI8 ew eM aaF BZ hW1;refine h9 _ _ (qA HV.o mj.o.v) ?_;clear h9 K9;refine bU ?_;(refine bT (λ K9 h9=>?_);simp only[aH,aU,aW,aa,ae];(repeat(go_big_quiet_step (fail)));refine wpQuiet_nil (h9 _ ?_);clear h9 K9)
   refine bU (dF ?_);simp only[aW,aa,ae];have cb:=hv8.cell;have fb:=hv8.free;have lb:=hv8.lt;clear xb cr lr hv8;go_wp2_with fail;have sA:=mj.o.aS 0 (G A8 (done++[x]).length c8);go_roundw
   case rel=>refine⟨done++[x],l,k1,A8,c8,by rw[HX9.q1];simp,HX9.t2,by simpa using aiE,?_⟩;simpa using sA
   case measure=>obtain⟨aiF,aiG,-⟩:=sA.p.blk;obtain⟨aiH,aiI,-⟩:=kW.o.blk;have h1:=aiG.cell 0;have h0:=aiI.cell 0;have Js:=HX9.q2.lt2;rw[show done.length+1=(done++[x]).length from bY,show _=O (G (O ⟨b,aiF,U⟩) (T.length - k1) (c - k1)) from h1,show X.cell? _=O (G (O ⟨b,aiH,U⟩) (T.length - k) (c - k)) from h0];show T.length - k1<T.length - k;omega
end
section
open Go.RowKit
attribute [local go_sem] aQ aC bW
theorem xX{w:agb}{cb t k:Nat}{c:Int}(hlt:k<256)(hc:qg k=c)(h:Bk w cb (lD (ow k)) t):Bk (w.setCell ⟨cb,k,U⟩ (.int .u8 c)) cb (lD (ow (k+1))) t:=by rw[<-Fy hlt,hc,<-xP];exact h.aS k _
theorem SE{w:agb}{cb t k:Nat}(h:Bk w cb (lD (ow k)) t)(hlt:k<256):w.cell? ⟨cb,k,U⟩=O (.int .u8 ((ow k).getD k 0)):=by rw[h.cell];unfold lD;rw[dn,bQ,af (by rw[pG];exact hlt),av,af (by rw[pG];exact hlt)];rfl
theorem zj{w:agb}{cb t k j:Nat}(h:Bk w cb (lD (ow k)) t)(hlt:j<256):∃v,w.cell? ⟨cb,j,U⟩=O (.int .u8 v):=by refine⟨(ow k).getD j 0,?_⟩;rw[h.cell];unfold lD;rw[dn,bQ,af (by rw[pG];exact hlt),av,af (by rw[pG];exact hlt)];rfl
theorem NS(l:List Int):(lD l).all (·.oneCell')=true:=by rw[dJ];intro v hv;simp only[lD,List.mem_toArray,eQ] at hv;obtain⟨x,_,rfl⟩:=hv;rfl
theorem Py:∀k:Nat,k<256->
 (((97:Int)<=k/\(k:Int)<=122)/\qg k=3)\/((¬(97:Int)<=k/\(65:Int)<=k/\(k:Int)<=90)/\qg k=3)\/
 ((¬(97:Int)<=k/\¬(65:Int)<=k/\(48:Int)<=k/\(k:Int)<=57)/\qg k=4)\/
 (((¬(97:Int)<=k/\¬(65:Int)<=k/\¬(48:Int)<=k)\/(¬(97:Int)<=k/\¬(65:Int)<=k/\(48:Int)<=k/\¬(k:Int)<=57)\/(¬(97:Int)<=k/\(65:Int)<=k/\¬(k:Int)<=90/\(48:Int)<=k/\¬(k:Int)<=57)\/((97:Int)<=k/\¬(k:Int)<=122/\(65:Int)<=k/\¬(k:Int)<=90/\(48:Int)<=k/\¬(k:Int)<=57))/\
   ((0<=Lib.indexByte [32,9,10] (k:Nat).toUInt8/\qg k=1)\/
    (¬0<=Lib.indexByte [32,9,10] (k:Nat).toUInt8/\0<=Lib.indexByte [59,44,46,58,40,41,123,125,61,43,45,47] (k:Nat).toUInt8/\qg k=6)\/
    (¬0<=Lib.indexByte [32,9,10] (k:Nat).toUInt8/\¬0<=Lib.indexByte [59,44,46,58,40,41,123,125,61,43,45,47] (k:Nat).toUInt8/\((((k:Int)==60)=true/\qg k=7)\/(((k:Int)==60)=false/\((k:Int)==62)=true/\qg k=7)\/(((k:Int)==60)=false/\((k:Int)==62)=false/\qg k=0))))):=by
 intro k h;have b1:=RZ k h;have b2:=aan k h;by_cases a1:97<=k/\k<=122
 · exact .inl ⟨ar,by unfold qg;rw[if_pos (Or.inl a1)]⟩
 · by_cases a2:65<=k/\k<=90
   · exact .inr (.inl ⟨ar,by unfold qg;rw[if_pos (Or.inr a2)]⟩)
   · have n0:¬((97<=k/\k<=122)\/(65<=k/\k<=90)):=ar
     by_cases a3:48<=k/\k<=57
     · exact .inr (.inr (.inl ⟨ar,by unfold qg;rw[if_neg n0,if_pos a3]⟩))
     · refine .inr (.inr (.inr ⟨ar,?_⟩))
       by_cases a4:k=32\/k=9\/k=10
       · rw[decide_eq_true a4] at b1
         exact .inl ⟨of_decide_eq_true b1,by unfold qg;rw[if_neg n0,if_neg a3,if_pos a4]⟩
       · rw[decide_eq_false a4] at b1
         by_cases a5:k=59\/k=44\/k=46\/k=58\/k=40\/k=41\/k=123\/k=125\/k=61\/k=43\/k=45\/k=47
         · rw[decide_eq_true a5] at b2
           exact .inr (.inl ⟨of_decide_eq_false b1,of_decide_eq_true b2,by unfold qg;rw[if_neg n0,if_neg a3,if_neg a4,if_pos a5]⟩)
         · rw[decide_eq_false a5] at b2
           refine .inr (.inr ⟨of_decide_eq_false b1,of_decide_eq_false b2,?_⟩);by_cases a6:k=60\/k=62
           · have hc:qg k=7:=by unfold qg;rw[if_neg n0,if_neg a3,if_neg a4,if_neg a5,if_pos a6]
             rcases a6 with rfl|rfl
             · exact .inl ⟨rfl,hc⟩
             · exact .inr (.inl ⟨rfl,rfl,hc⟩)
           · have hc:qg k=0:=by unfold qg;rw[if_neg n0,if_neg a3,if_neg a4,if_neg a5,if_neg a6]
             exact .inr (.inr ⟨by rw[beq_eq_false_iff_ne];omega,by rw[beq_eq_false_iff_ne];omega,hc⟩)
theorem JI(w:agb):Calls prog 186 #[] w (jL (.agg (lD sD)) w):=by
 have hz:Tryz.zeroCells310=lD (ow 0):=aV;go_enter func186,ntmps186;go_upto_region 2 with fail
 have hY:aZ w ((w.alloc (D Tryz.zeroCells310 310)).alloc (D Tryz.zeroCells310 310))/\Bk ((w.alloc (D Tryz.zeroCells310 310)).alloc (D Tryz.zeroCells310 310)) w.heap.size (lD (ow 0)) 310/\Bk ((w.alloc (D Tryz.zeroCells310 310)).alloc (D Tryz.zeroCells310 310)) (w.heap.size+1) (lD (ow 0)) 310:=by rw[hz];exact⟨dE,(Bk.new w _ _).alloc _,au _ _ _ _ bY⟩
 refine forget (λ X=>aZ w X/\Bk X w.heap.size (lD (ow 0)) 310/\Bk X (w.heap.size+1) (lD (ow 0)) 310) hY ?_;clear hY hz;obtain⟨rb,kS⟩:∃x,w.heap.size=x:=⟨_,rfl⟩;obtain⟨cb,hcb⟩:∃x,w.heap.size+1=x:=⟨_,rfl⟩;rintro X ⟨hX,h0,h1⟩;rw[hcb] at h1⊢;rw[kS] at h0⊢;have hne:rb≠cb:=ar;have HX:=lQ hX h0 h1 kS hcb;clear hX h0 h1 kS hcb;go_wp2_with fail;go_loopw [4] (λ i wr=>∃k:Nat,k<=256/\i=I J k/\Bk wr cb (lD (ow k)) 310/\Only (λ g=>g=cb) X wr) (λ i _=>256 - (intOf i).toNat)
 case atStart=>exact⟨0,ar,rfl,HX.q3,Only.refl _ _⟩
 case round=>
  obtain⟨k,hk,rfl,hb,ho⟩:=hrel;generalize wr=wB at *;have HB:=dt hb ho;have lc:=hb.lt;by_cases hlt:k<256
  · have kq:(k:Int)<256:=ar
    have q0:=SE hb hlt;have f0:=hb.free k;generalize(ow k).getD k 0=c0 at q0;have hc1:=λ X=>aG (Tryz.strings_IndexByte ⟨#[32,9,10]⟩ k X);have hc2:=λ X=>aG (Tryz.strings_IndexByte ⟨#[59,44,46,58,40,41,123,125,61,43,45,47]⟩ k X);have hcs:=Py k hlt;rw[Int.toNat_natCast] at hc1 hc2;change ∀X,Hid (Calls prog 210 _ X λ e w'=>e=.returned (I J (Lib.indexByte [32,9,10] k.toUInt8))/\_) at hc1;change ∀X,Hid (Calls prog 210 _ X λ e w'=>e=.returned (I J (Lib.indexByte [59,44,46,58,40,41,123,125,61,43,45,47] k.toUInt8))/\_) at hc2;generalize Lib.indexByte [32,9,10] k.toUInt8=x1 at *;generalize Lib.indexByte [59,44,46,58,40,41,123,125,61,43,45,47] k.toUInt8=x2 at *;clear hb ho;rcases hcs with⟨p,hc⟩|⟨p,hc⟩|⟨p,hc⟩|⟨p,hc⟩
    · as_aux_lemma=>
      obtain⟨j1,j2⟩:=p;have HC:=aG hc;clear hc;go_wp2_with fail;go_roundw
      case rel=>exact⟨k+1,ar,gC,xX hlt HC.o HB.q1,HB.t1.aS (p:=⟨cb,k,U⟩) (.inl rfl) _⟩
      case measure=>simp[intOf];omega
    · as_aux_lemma=>
      obtain⟨j1,j2,j3⟩:=p;have HC:=aG hc;clear hc;go_wp2_with fail;go_roundw
      case rel=>exact⟨k+1,ar,gC,xX hlt HC.o HB.q1,HB.t1.aS (p:=⟨cb,k,U⟩) (.inl rfl) _⟩
      case measure=>simp[intOf];omega
    · as_aux_lemma=>
      obtain⟨j1,j2,j3,j4⟩:=p;have HC:=aG hc;clear hc;go_wp2_with fail;go_roundw
      case rel=>exact⟨k+1,ar,gC,xX hlt HC.o HB.q1,HB.t1.aS (p:=⟨cb,k,U⟩) (.inl rfl) _⟩
      case measure=>simp[intOf];omega
    · rcases p with⟨j1,j2,j3⟩|⟨j1,j2,j3,j4⟩|⟨j1,j2,j3,j4,j5⟩|⟨j1,j2,j3,j4,j5,j6⟩<;>rcases hc with⟨g1,hc⟩|⟨g1,g2,hc⟩|⟨g1,g2,⟨g3,hc⟩|⟨g3,g4,hc⟩|⟨g3,g4,hc⟩⟩
      all_goals as_aux_lemma=>
       have HC:=aG hc;clear hc;go_wp2_with (go_at_call 210;first|(with_reducible refine(hc1 _).o.mono ?_;rintro e w5 ⟨rfl,rfl⟩)|(with_reducible refine(hc2 _).o.mono ?_;rintro e w5 ⟨rfl,rfl⟩));go_roundw
       case rel=>first|exact⟨k+1,ar,gC,xX hlt HC.o HB.q1,HB.t1.aS (p:=⟨cb,k,U⟩) (.inl rfl) _⟩|exact⟨k+1,ar,gC,by rw[Pd hlt HC.o];exact HB.q1,HB.t1⟩
       case measure=>simp[intOf];omega
  · as_aux_lemma=>
    obtain rfl:k=256:=ar;have f35:=hb.free 35;have f95:=hb.free 95;have f33:=hb.free 33;obtain⟨v35,q35⟩:=zj hb (j:=35) ar;obtain⟨v95,q95⟩:=zj hb (j:=95) ar;obtain⟨v33,q33⟩:=zj hb (j:=33) ar;clear hb;go_upto_region 20 with fail
    have bt:Bk (((wB.setCell ⟨cb,35,U⟩ (.int .u8 2)).setCell ⟨cb,95,U⟩ (.int .u8 5)).setCell ⟨cb,33,U⟩ (.int .u8 8)) cb (lD sD) 310:=by have h3:=((HB.q1.aS 35 (.int .u8 2)).aS 95 (.int .u8 5)).aS 33 (.int .u8 8);rw[xP,xP,xP] at h3;exact h3
    have ot:Only (λ g=>g=cb) X (((wB.setCell ⟨cb,35,U⟩ (.int .u8 2)).setCell ⟨cb,95,U⟩ (.int .u8 5)).setCell ⟨cb,33,U⟩ (.int .u8 8)):=
     ((HB.t1.aS (p:=⟨cb,35,U⟩) (.inl rfl) _).aS (p:=⟨cb,95,U⟩) (.inl rfl) _).aS (p:=⟨cb,33,U⟩) (.inl rfl) _
    refine forget (λ Z=>Bk Z cb (lD sD) 310/\Only (λ g=>g=cb) X Z) ⟨bt,ot⟩ ?_;clear bt ot HB q35 q95 q33 f35 f95 f33 lc hlt hk ho;clear wB;rintro Z ⟨bt,ot⟩;have br:=HX.q2.only ot hne;have HZ:=fH bt br ot;have aiJ:(lD sD).size=256:=by decide+kernel
    have apk:(lD (ow 0)).size=256:=by decide+kernel
    have hi:(prog.info? 310).map (·.size)=O (lD sD).size:=by rw[aiJ];kernel_rfl
    have hone:=NS sD;clear bt br ot;generalize hCT:lD sD=CT at *;generalize lD (ow 0)=C0 at *
    go_wp2_with (first
     |(refine dM rfl _ _ rfl cb 0 rfl CT _ (λ j u h=>by rw[bX,HZ.q1.cell];exact h) underlying310 rfl hi ?_)
     |(refine eK (o:=⟨U,.store 310 _ _,_,_,_,_⟩) rfl _ _ _ rfl rb CT rfl rfl HZ.q2 hi ar hone ?_;intro Y hY hYo;have HY:=dt hY hYo;clear hY hYo;go_simp))
    obtain⟨hX,_,_,kS,hcb⟩:=HX.o;have hz:=HZ.q2.lt;have h1:Only (λ g=>g=cb\/g=rb) X Y:=(HZ.t2.mono λ g hg=>.inl hg).trans (HY.t1.mono λ g hg=>.inr hg);exact bodyPost_ret (gD (p:=⟨rb,0,U⟩) rfl rfl (HY.q1.load underlying310 rfl hi)) rfl ⟨rfl,hX.trans (h1.aK (λ g hg=>ar) hX.size)⟩
end
section
open Go.RowKit
section
variable{P:Program}{w:agb}{a:Addr}{m:Mode}
theorem BI(f:Fn)(xs ys:Array R):(store a (.func f xs ys) m).run P w=stored P w a (.func f xs ys) m:=run_store P w a _ m rfl
end
attribute [local go_sem] aQ aC bW BI
theorem Pz{w:agb}{cb:Nat}(hc:Bk w cb (lD sD) 310){b:Nat}(hb:b<256):w.cell? ⟨cb,b,U⟩=O (.int .u8 (WN b)):=by
 have hlen:sD.length=256:=by unfold sD;simp[pG]
 have h:=WO hb;rw[av,af ar,dD] at h;rw[hc.cell];unfold lD;rw[dn,bQ,af ar,h];rfl
theorem aaG(bs:BA0)(i cb tb:Nat)(w:agb)(hc:Bk w cb (lD sD) 310)(ht:Bk w tb #[.string bs] 9)(hi:i<=1000000)(hs:bs.size<=1000000):
 Calls prog 187 #[I J i,M (O ⟨tb,0,U⟩),M (O ⟨cb,0,U⟩)] w λ e w'=>e=.returned (.int .u8 (iQ bs i))/\w'=w:=by
 have c0:=ht.cell 0;have l0:=ht.lt;have l1:=hc.lt;by_cases hlt:i<bs.size
 · have h1:¬(bs.size:Int)<=(i:Int):=ar
   have h2:(i:Int)<(bs.size:Int):=ar
   have hx:w.cell? ⟨cb,(bs[i]'hlt).toNat,U⟩=O (.int .u8 (iQ bs i)):=by rw[Pz hc (UInt8.toNat_lt _)];unfold iQ;rw[show bs.data[i]?=O (bs[i]'hlt) from cP hlt]
   have mN:(((bs[i]'hlt).toNat:Nat):Int)<256:=by have :=UInt8.toNat_lt (bs[i]'hlt);omega
   generalize iQ bs i=cv at *;clear hc;go_enter func187,ntmps187;go_wp2_with fail;go_ret;exact⟨rfl,rfl⟩
 · have h1:(bs.size:Int)<=(i:Int):=ar
   have hn:iQ bs i=0:=by
    unfold iQ;have :bs.data[i]?=U:=by rw[cI];exact Nat.le_of_not_lt hlt
    rw[this]
   rw[hn];go_enter func187,ntmps187;go_wp2_with fail;go_ret;exact⟨rfl,rfl⟩
structure Lx(w:agb)(bs:BA0)(tb cb:Nat):Prop where
 t:Bk w tb #[.string bs] 9
 c:Bk w cb (lD sD) 310
 a:Bk w (cb+1) #[.func (.func 187) #[] #[M (O ⟨tb,0,U⟩),M (O ⟨cb,0,U⟩)]] 312
theorem LV(bs:BA0)(w:agb):
 Calls prog 144 #[.string bs] w λ e w'=>∃cb,e=.returned (.func (.func 188) #[] #[M (O ⟨w.heap.size,0,U⟩),M (O ⟨cb+1,0,U⟩)])/\Lx w' bs w.heap.size cb/\w.heap.size<cb/\aZ w w':=by
 have hi:(prog.info? 310).map (·.size)=O (lD sD).size:=by rw[show(lD sD).size=256 by decide+kernel];kernel_rfl
 have C9:∀(fn:Fn)(first cap:Array R)(w:agb),(Instr.makeFunc fn first cap).run prog w=.ok (.func fn first cap) w:=λ _ _ _ _=>rfl;go_enter func144,ntmps144;have hone:=NS sD;have hsz:(lD sD).size=256:=by decide+kernel
 generalize hCT:lD sD=CT at *;have mW:=λ X=>JI X;rw[hCT] at mW;have HC:=aG mW;clear mW;have hz:Tryz.zeroCells310.size=CT.size:=by rw[hsz];kernel_rfl
 go_upto_region 2 with(first
  |(go_at_call 186;refine(HC.o _).mono ?_;rintro r Y ⟨rfl,hb⟩;have HB:=aG hb;clear hb)
  |(refine fD (o:=⟨U,.store 310 _ _,_,_,_,_⟩) rfl _ _ _ rfl CT rfl rfl hi hz hone ?_;go_simp))
 have Zq:aZ w Y:=aq (aj w _) HB.o;have h0:Bk Y w.heap.size #[.string bs] 9:=(Bk.new w _ _).below HB.o;have hz1:=HB.o.size;have H0:=dt Zq h0;clear Zq h0;go_wp2_with fail;go_ret;refine⟨Y.heap.size,rfl,⟨(H0.t1.alloc _).alloc _,?_,au _ _ _ _ bY⟩,by simp at hz1;omega,ay (ay H0.q1 _) _⟩;rw[hCT];exact(Bk.new Y CT 310).alloc _
end
end Go.Proofs.YtbcpcneadjcmlaaGreatDoor
