import Derived.Test.YtbcpcneadjcmlaaGreatDoorK02
import Derived.Deep.RegionHeld3
namespace Go.Proofs.YtbcpcneadjcmlaaGreatDoor
open Go.Proofs.Tryz
set_option maxRecDepth 100000
set_option maxHeartbeats 16000000
set_option linter.unusedVariables false
set_option linter.unusedSimpArgs false
open Value renaming int→I,slice→G,pointer→M
open IntKind renaming i64→J
open Obj renaming cells→D
open Option renaming some→O,none→U
open Go renaming Value→R,World→agb
section
open Go.RowKit
attribute [local go_sem] aQ aC bW kC kD
theorem WU{pb:Nat}{X X':agb}(h:Only (λ g=>g=pb) X X'):Only (λ g=>O pb=O g) X X':=h.mono λ g hg=>by rw[hg]
theorem GU{pb:Nat}{A:dB}{T:List Tok}{c k:Nat}{e:Int}{X X':agb}(h:NL pb A T c k e X X'):Only (λ g=>O pb=O g) X X':=WU h.2
abbrev Pj:Array R:=#[.string ⟨#[]⟩,G U 0 0,I J 0]
theorem WV(W:agb)(pb:Nat)(A:dB)(c:Nat)(h:oT W pb A dX c 22 147):
 Calls prog 203 #[M (O ⟨pb,0,U⟩),I J 69] W λ r W'=>∃v,r=.returned (.agg #[.string ⟨#[98]⟩,v,I J 69])/\W'.ownsRow W.heap.size 166 8 v 1 fT.toList/\NL pb A dX c 37 147 W W':=by
 have lp:=h.lt;have hA:=h.ne;have kW:=aG h;clear h;go_enter func203,ntmps203;go_upto_region 2 with(go_at_call 108;refine(pJ _ _ _ dX _ _ 147 _ _ _ _ (kW.o.grow (aj _ _)) rfl).mono ?_;rintro r Y ⟨rfl,hg⟩;have HB:=aG hg;clear hg);obtain⟨rb,kS⟩:∃x,Y.heap.size=x:=⟨_,rfl⟩;have hz:=HB.t1.size;have LL:W.heap.size<rb:=by simp at hz;omega
 have hL:vd W pb A dX c 147 rb 163 (λ X=>Bk X W.heap.size Pj 163) 23 #[.string ⟨#[98]⟩,G U 0 0,I J 69] (Y.alloc (D #[.string ⟨#[98]⟩,G U 0 0,I J 69] 163)):=by have h0:Bk (W.alloc (D Pj 163)) W.heap.size Pj 163:=Bk.new _ _ _;refine⟨HB.q1.grow (aj _ _),au _ _ _ _ kS,(h0.only HB.t1 ar).alloc _,?_,ar,λ g off q=>by have :=hA g off q;omega,λ X X' ho hk=>hk.only ho ar⟩;exact((aw (S:=λ g=>g=pb\/g=rb) (aj W _)).trans (HB.t1.mono λ g hg=>.inl hg)).alloc _
 rw[kS];refine forget (λ X=>vd W pb A dX c 147 rb 163 (λ X=>Bk X W.heap.size Pj 163) 23 #[.string ⟨#[98]⟩,G U 0 0,I J 69] X) hL ?_;clear hL kS HB hz kW;clear Y;intro X hL;have HS:=aG hL;clear hL;go_upto_region 3 with(go_at_call 107;refine(jG _ _ _ dX _ _ 147 _ _ _ _ HS.o.p rfl rfl).mono ?_;rintro r X ⟨⟨v,rfl⟩,hg⟩;replace HS:=aG (HS.o.go hg);clear hg);refine wp_loop_rounds 2 ?_;rw[rounds_succ];go_upto_region 4 with(go_at_call 110;refine(FC _ _ _ dX _ _ 147 _ _ _ _ _ HS.o.p rfl rfl rfl).mono ?_;rintro r X ⟨rfl,hg⟩;replace HS:=aG (HS.o.grow hg);clear hg);obtain⟨Y,hY⟩:∃Y,X=Y:=⟨_,rfl⟩;subst hY;have lr:=HS.o.b.lt;have cr:=HS.o.b.cell;have hne:=HS.o.ne;have xb:∀u i,(jP (O pb) X u).cell? ⟨rb,i,U⟩=(#[.string ⟨#[98]⟩,G U 0 0,I J 69]:Array R)[i]?:=λ u i=>(fE rb i lr (λ e=>hne (aO e).symm)).trans (cr i);have mj:=aG HS.o.drew;have HO:Hid (Only (λ g=>O pb=O g) X X.drew):=aG ((Only.refl _ _).drew);refine ed (S:=λ w'=>∃u,w'=jP (O pb) X u) [([0,1,2],[3,4,5]),([6],[])] 7 aV aV (dT HO.o) ?_;(refine bT (λ K9 h9=>?_);simp only[aH,aU,aW,aa,ae];(repeat(go_big_quiet_step (fail)));refine wpQuiet_nil (h9 _ ?_);clear h9 K9)
 (refine cM (λ K9 h9=>?_);simp only[aW,aa,ae])
 go_wp2_with (go_at_call 218;refine(adX _ _ _ _ mj.o.p).mono ?_;rintro r X1 ⟨rfl,hg⟩;replace HO:=aG (HO.o.trans (GU hg));replace mj:=aG (mj.o.go hg);clear hg);refine h9 _ _ (dT HO.o) ?_;clear h9 K9;(refine cM (λ K9 h9=>?_);simp only[aW,aa,ae])
 refine jo (by rfl) _ 166 _ (by rfl) fT (by rfl) zT aV bY bY aV ?_;show K9 _ _;go_simp;have BZ:=Bk.new X1 fT 166;replace HO:=aG (HO.o.alloc (D fT 166));replace mj:=aG (mj.o.grow (aj X1 (D fT 166)));refine h9 _ _ (dT HO.o) ?_;clear h9 K9;(refine cM (λ K9 h9=>?_);simp only[aW,aa,ae])
 refine mh rfl _ _ _ rfl 166 88 fT zT aV cj rfl X1.heap.size rfl BZ aV cj ?_;intro A8 c8 w8 ew eM;show K9 _ _;go_simp;have hrow:=jr ew (b2:=X.heap.size) HO.o.size;replace HO:=aG (HO.o.below (eM.mono (by have :=HO.o.size;exact this)));replace mj:=aG (mj.o.grow eM);have HR:=aG hrow;refine h9 _ _ (dT HO.o) ?_;clear h9 K9 ew eM hrow BZ;refine bU ?_;(refine bT (λ K9 h9=>?_);simp only[aH,aU,aW,aa,ae];(repeat(go_big_quiet_step (fail)));refine wpQuiet_nil (h9 _ ?_);clear h9 K9)
 refine bU (dF ?_);simp only[aW,aa,ae];clear xb HO cr;have lr1:=mj.o.b.lt;have cr:=mj.o.b.cell;have fr:=mj.o.b.free;have yY:=HS.o.o.size;go_wp2_with fail;rw[rounds_succ]
 have hL:=(mj.o.aS 1 (G A8 1 c8)).acu (F':=λ Z=>Bk Z W.heap.size Pj 163/\Z.ownsRow X.heap.size 166 8 (G A8 1 c8) 1 fT.toList)
  ⟨mj.o.f.far (by show W.heap.size≠rb;omega) _,ee HR.o ((Only.refl (λ g=>g=rb) w8).aS (p:=⟨rb,1,U⟩) (.inl rfl) _) (λ g hg=>by have :=(jd HR.o hg).1;omega)⟩
  (λ Z Z' ho hk=>⟨hk.1.only ho ar,ee hk.2 ho (λ g hg=>by have :=(jd hk.2 hg).1;omega)⟩)
 refine forget (λ Z=>vd W pb A dX c 147 rb 163 (λ Z=>Bk Z W.heap.size Pj 163/\Z.ownsRow X.heap.size 166 8 (G A8 1 c8) 1 fT.toList) 36 #[.string ⟨#[98]⟩,G A8 1 c8,I J 69] Z) hL ?_;clear hL mj HS HR lr1 cr fr;clear w8;intro Z hL;have HS:=aG hL;clear hL;go_upto_region 5 with(go_at_call 110;refine(GR _ _ _ dX _ _ 147 _ _ _ _ HS.o.p rfl rfl).mono ?_;rintro r X ⟨rfl,hg⟩;replace HS:=aG (HS.o.go hg);clear hg);have hB:=HS.o.b;obtain⟨cb,lb⟩:=hB.cl0;have h0:=HS.o.f.1;have c0:=h0.cell;have f0:=h0.free;have l0:=h0.lt;have hD:=HS.o.done (gS LL);have HD:=fH hD h0 HS.o.f.2;clear hD hB h0 HS;go_wp2_with fail;refine bodyPost_ret (gD (p:=⟨W.heap.size,0,U⟩) rfl rfl (Bk.load (jF HD.q2 #[.string ⟨#[98]⟩,G A8 1 c8,I J 69] rfl) underlying163 rfl aV)) rfl ⟨_,rfl,?_,HD.q1.Jv (l:=[.string ⟨#[98]⟩,G A8 1 c8,I J 69]) hA (ah _) lp⟩;exact ee (jr HD.t2 yY) (iA (b:=W.heap.size) [.string ⟨#[98]⟩,G A8 1 c8,I J 69] 0 _) (λ g hg=>by have :=(jd HD.t2 hg).1;omega)
theorem iJ{X w':agb}(h:aZ X w'):∃u,w'=ext X u:=by obtain⟨u,hu⟩:=dV h;exact⟨u,hu.symm⟩
structure Lv(W:agb)(pb:Nat)(A:dB)(c lb jf jV k:Nat)(C:Array R):Prop where
 p:oT W pb A dX c k 147
 l:Bk W lb C 85
 bp:Bk W jf #[M (O ⟨pb,0,U⟩)] 229
 bl:Bk W jV #[M (O ⟨lb,0,U⟩)] 302
 n1:pb<lb
 n2:lb≠jf
 n3:lb≠jV
 n4:pb≠jf
 n5:pb≠jV
theorem Lv.na{W:agb}{pb:Nat}{A:dB}{c lb jf jV k:Nat}{C:Array R}(h:Lv W pb A c lb jf jV k C):∀g off,A=O ⟨g,off,U⟩->g≠lb:=λ g off q=>by have :=h.p.ne g off q;have :=h.n1;omega
def LvO(W:agb)(pb:Nat)(A:dB)(c lb jf jV k:Nat)(C:Array R)(W':agb):Prop:=Lv W' pb A c lb jf jV k C/\Only (λ g=>g=pb\/g=lb) W W'
theorem Lv.only{W X:agb}{pb:Nat}{A:dB}{c lb jf jV k k':Nat}{C:Array R}(h:Lv W pb A c lb jf jV k C)(hp:oT X pb A dX c k' 147)(ho:Only (λ g=>g=pb) W X):Lv X pb A c lb jf jV k' C:=
 ⟨hp,h.l.only ho (by have :=h.n1;omega),h.bp.only ho (by have :=h.n4;omega),h.bl.only ho (by have :=h.n5;omega),h.n1,h.n2,h.n3,h.n4,h.n5⟩
theorem Lv.below{W X:agb}{pb:Nat}{A:dB}{c lb jf jV k:Nat}{C:Array R}(h:Lv W pb A c lb jf jV k C)(hb:aZ W X):Lv X pb A c lb jf jV k C:=h.only (h.p.grow hb) (aw hb)
theorem Lv.aS{W:agb}{pb:Nat}{A:dB}{c lb jf jV k:Nat}{C:Array R}(h:Lv W pb A c lb jf jV k C)(i:Nat)(v:R):Lv (W.setCell ⟨lb,i,U⟩ v) pb A c lb jf jV k (C.setIfInBounds i v):=
 ⟨h.p.aS (by have :=h.n1;omega) h.na i v,h.l.aS i v,h.bp.far (by show jf≠lb;have :=h.n2;omega) v,h.bl.far (by show jV≠lb;have :=h.n3;omega) v,h.n1,h.n2,h.n3,h.n4,h.n5⟩
theorem aas(W:agb)(pb:Nat)(A:dB)(c lb jf jV:Nat)(x0 x1 x2 x3 x4 x5 x7:R)(h:Lv W pb A c lb jf jV 12 #[x0,x1,x2,x3,x4,x5,G U 0 0,x7]):
 Calls prog 208 #[I J 40,M (O ⟨jf,0,U⟩),M (O ⟨jV,0,U⟩)] W λ r W'=>(∃v,r=.returned v)/\∃v,W'.ownsRow W.heap.size 23 2 v 1 [I J 10,I J 0]/\LvO W pb A c lb jf jV 15 #[x0,x1,x2,x3,x4,x5,v,x7] W':=by
 have lp:=h.p.lt;have l1:=h.l.lt;have l2:=h.bp.lt;have l3:=h.bl.lt;have c2:=h.bp.cell 0;have HA:=aG h
 have HS:Hid (vd W pb A dX c 147 W.heap.size 23 (λ X=>Bk X lb #[x0,x1,x2,x3,x4,x5,G U 0 0,x7] 85/\Bk X jf #[M (O ⟨pb,0,U⟩)] 229/\Bk X jV #[M (O ⟨lb,0,U⟩)] 302) 12 #[I J 0,I J 0] (W.alloc (D #[I J 0,I J 0] 23))):=by have h1:=h.n1;have h2:=h.n4;have h3:=h.n5;exact aG ⟨h.p.grow (aj _ _),Bk.new _ _ _,⟨h.l.alloc _,h.bp.alloc _,h.bl.alloc _⟩,aw (aj _ _),ar,λ g off q=>by have :=h.p.ne g off q;omega,λ X X' ho hk=>⟨hk.1.only ho ar,hk.2.1.only ho ar,hk.2.2.only ho ar⟩⟩
 clear h;go_enter func208,ntmps208;go_upto_region 2 with(go_at_call 109;refine(mM HS.o.p [(0,10),(1,0)] 2 HS.o.b aV HS.o.ne HS.o.na rfl ar bY).mono ?_;rintro r X ⟨⟨v,rfl⟩,hg⟩;replace HS:=aG (HS.o.Jw hg);clear hg;have c2:=HS.o.f.2.1.cell 0);go_upto_region 3 with(go_at_call 107;refine(jG _ _ _ dX _ _ 147 _ _ _ _ HS.o.p rfl rfl).mono ?_;rintro r X ⟨⟨v,rfl⟩,hg⟩;replace HS:=aG (HS.o.go hg);clear hg);have hD:=HS.o.done (ah _);have hL:Lv X pb A c lb jf jV 15 #[x0,x1,x2,x3,x4,x5,G U 0 0,x7]:=HA.o.only hD.1 hD.2;have hB:Bk X W.heap.size #[I J 10,I J 0] 23:=HS.o.b;have HD:=dt hD.2 hL;clear c2;have c1:=hL.l.cell;have c2:=hL.bp.cell 0;have c3:=hL.bl.cell 0;have c4:=hB.cell;have m1:=hL.l.lt;have m2:=hL.bp.lt;have m3:=hL.bl.lt;have m4:=hB.lt;have hz:=hD.2.size;clear hD hL hB HS;have HO:Hid (aZ X X.drew):=aG ((aA _ X).drew);refine ed (S:=λ w'=>∃u,w'=ext X u) [([0,1,2,3,4,5],[6,7]),([8,9],[])] 10 aV aV (iJ HO.o) ?_;(refine bT (λ K9 h9=>?_);simp only[aH,aU,aW,aa,ae];(repeat(go_big_quiet_step (fail)));refine wpQuiet_nil (h9 _ ?_);clear h9 K9)
 (refine cM (λ K9 h9=>?_);simp only[aW,aa,ae])
 refine jo (by rfl) _ 23 _ (by rfl) #[I J 10,I J 0] (by rfl) underlying83 aV bY bY aV ?_;show K9 _ _;go_simp;replace HO:=aG (HO.o.alloc HO.o.size (D #[I J 10,I J 0] 23));have BZ:=Bk.new X.drew #[I J 10,I J 0] 23;refine h9 _ _ (iJ HO.o) ?_;clear h9 K9;(refine cM (λ K9 h9=>?_);simp only[aW,aa,ae])
 refine mh rfl _ _ _ rfl 23 16 #[I J 10,I J 0] underlying83 aV cj rfl X.drew.heap.size rfl BZ aV cj ?_;intro A8 c8 w8 ew eM;show K9 _ _;go_simp;have hrow:=jr ew (b2:=X.heap.size) HO.o.size;replace HO:=aG (aq HO.o eM);have HR:=aG hrow;refine h9 _ _ (iJ HO.o) ?_;clear h9 K9 ew eM hrow BZ;refine bU ?_;(refine bT (λ K9 h9=>?_);simp only[aH,aU,aW,aa,ae];(repeat(go_big_quiet_step (fail)));refine wpQuiet_nil (h9 _ ?_);clear h9 K9)
 refine bU (dF ?_);simp only[aW,aa,ae];clear c1 c2 c3 c4;have C6:=HD.t1.below HO.o;have c1:=C6.l.cell;have f1:=C6.l.free;have m5:=C6.l.lt;have H8:=aG C6;clear C6;go_wp2_with fail;go_end0;have Q9:Only (λ g=>g=lb) w8 (w8.setCell ⟨lb,6,U⟩ (G A8 1 c8)):=(Only.refl (λ g=>g=lb) w8).aS (p:=⟨lb,6,U⟩) (.inl rfl) _;refine⟨⟨_,rfl⟩,_,jr (ee HR.o Q9 (λ g hg=>by have :=(jd HR.o hg).1;omega)) hz,H8.o.aS 6 _,?_⟩;exact((HD.q1.mono λ g hg=>.inl hg).trans (aw HO.o)).trans (Q9.mono λ g hg=>.inr hg)
theorem qx(W:agb):aZ W W.drew:=(aA _ W).drew
theorem WW(W:agb)(pb:Nat)(A:dB)(c lb jf jV:Nat)(x0 x1 x2 x3 x5 x6 x7:R)(h:Lv W pb A c lb jf jV 16 #[x0,x1,x2,x3,G U 0 0,x5,x6,x7]):
 Calls prog 206 #[I J 51,M (O ⟨jV,0,U⟩),M (O ⟨jf,0,U⟩)] W λ r W'=>(∃v,r=.returned v)/\∃v,W'.ownsRow W.heap.size 169 4 v 1 [I J 10,I J 0,I J 18,I J 30]/\LvO W pb A c lb jf jV 21 #[x0,x1,x2,x3,v,x5,x6,x7] W':=by
 have lp:=h.p.lt;have c1:=h.l.cell;have c2:=h.bp.cell 0;have c3:=h.bl.cell 0;have m1:=h.l.lt;have m2:=h.bp.lt;have m3:=h.bl.lt;have n1:=h.n1;have n4:=h.n4;have n5:=h.n5;have xl:∀u i,(jP (O pb) W u).cell? ⟨lb,i,U⟩=(#[x0,x1,x2,x3,G U 0 0,x5,x6,x7]:Array R)[i]?:=λ u i=>(fE lb i m1 (λ e=>by cases e;omega)).trans (c1 i);have xp:∀u,(jP (O pb) W u).cell? ⟨jf,0,U⟩=O (M (O ⟨pb,0,U⟩)):=λ u=>(fE jf 0 m2 (λ e=>by cases e;omega)).trans c2;have xq:∀u,(jP (O pb) W u).cell? ⟨jV,0,U⟩=O (M (O ⟨lb,0,U⟩)):=λ u=>(fE jV 0 m3 (λ e=>by cases e;omega)).trans c3;have HA:=aG h;have HO:Hid (Only (λ g=>O pb=O g) W W.drew):=aG ((Only.refl _ _).drew);clear h c1 c2 c3;go_enter func206,ntmps206;go_upto_region 0 with fail;refine ed (S:=λ w'=>∃u,w'=jP (O pb) W u) [([0,1,2,3,4,5],[6,7,8]),([9,10],[])] 11 aV aV (dT HO.o) ?_;(refine bT (λ K9 h9=>?_);simp only[aH,aU,aW,aa,ae];(repeat(go_big_quiet_step (fail)));refine wpQuiet_nil (h9 _ ?_);clear h9 K9)
 (refine cM (λ K9 h9=>?_);simp only[aW,aa,ae])
 go_wp2_with (go_at_call 205;refine(NM _ _ _ dX _ _ 147 10 0 18 30 (HA.o.p.grow (qx W)) aV).mono ?_;rintro r X1 ⟨rfl,hg⟩;replace HO:=aG (HO.o.trans (GU hg));have HG:=dt hg trivial;clear hg);refine h9 _ _ (dT HO.o) ?_;clear h9 K9;(refine cM (λ K9 h9=>?_);simp only[aW,aa,ae])
 refine jo (by rfl) _ 169 _ (by rfl) #[I J 10,I J 0,I J 18,I J 30] (by rfl) vp aV bY bY aV ?_;show K9 _ _;go_simp;have FD:=HO.o.size;replace HO:=aG (HO.o.alloc (D #[I J 10,I J 0,I J 18,I J 30] 169));have BZ:=Bk.new X1 #[I J 10,I J 0,I J 18,I J 30] 169;refine h9 _ _ (dT HO.o) ?_;clear h9 K9;(refine cM (λ K9 h9=>?_);simp only[aW,aa,ae])
 refine mh rfl _ _ _ rfl 169 32 #[I J 10,I J 0,I J 18,I J 30] vp aV bY rfl X1.heap.size rfl BZ aV cj ?_;intro A8 c8 w8 ew eM;show K9 _ _;go_simp;have hrow:=jr ew (b2:=W.heap.size) HO.o.size;replace HO:=aG (HO.o.below (eM.mono (by have :=HO.o.size;exact this)));have Ad:aZ X1 w8:=aq (aj X1 _) eM;have HR:=dt hrow Ad;refine h9 _ _ (dT HO.o) ?_;clear h9 K9 ew eM hrow BZ Ad;refine bU ?_;(refine bT (λ K9 h9=>?_);simp only[aH,aU,aW,aa,ae];(repeat(go_big_quiet_step (fail)));refine wpQuiet_nil (h9 _ ?_);clear h9 K9)
 refine bU (dF ?_);simp only[aW,aa,ae];have GV:Only (λ g=>g=pb) W w8:=HO.o.mono λ g hg=>(aO hg).symm;have C6:=HA.o.only (HG.q1.1.grow HR.t1) GV;clear xl xp xq HO;have c1:=C6.l.cell;have f1:=C6.l.free;have m5:=C6.l.lt;have H8:=dt C6 GV;clear C6 GV;go_upto_region 1 with fail;have Q9:Only (λ g=>g=lb) w8 (w8.setCell ⟨lb,4,U⟩ (G A8 1 c8)):=(Only.refl (λ g=>g=lb) w8).aS (p:=⟨lb,4,U⟩) (.inl rfl) _;have hL9:=H8.q1.aS 4 (G A8 1 c8);have hr9:=ee HR.q1 Q9 (λ g hg=>by have :=(jd HR.q1 hg).1;omega);have iO:Only (λ g=>g=pb\/g=lb) W (w8.setCell ⟨lb,4,U⟩ (G A8 1 c8)):=(H8.t1.mono λ g hg=>.inl hg).trans (Q9.mono λ g hg=>.inr hg);have c2:=hL9.bp.cell 0;have m2:=hL9.bp.lt;have HL:=fH hL9 hr9 iO;clear hL9 hr9 iO c1 f1;go_wp2_with (go_at_call 107;refine(jG _ _ _ dX _ _ 147 _ _ _ _ HL.q1.p rfl rfl).mono ?_;rintro r X ⟨⟨v,rfl⟩,hg⟩;have HM:=aG hg;clear hg);go_end0;exact⟨⟨_,rfl⟩,_,ee HL.q2 HM.t1 (λ g hg=>by have :=(jd HL.q2 hg).1;omega),HL.q1.only HM.q1 HM.t1,HL.t2.trans (HM.t1.mono λ g hg=>.inl hg)⟩
theorem Sc(W:agb)(pb:Nat)(A:dB)(c lb jf jV:Nat)(x0 x1 x3 x4 x5 x6 x7:R)(h:Lv W pb A c lb jf jV 22 #[x0,x1,G U 0 0,x3,x4,x5,x6,x7]):
 Calls prog 202 #[I J 69,M (O ⟨jV,0,U⟩),M (O ⟨jf,0,U⟩)] W λ r W'=>(∃v,r=.returned v)/\∃vr v,W'.ownsRow W.heap.size 166 8 vr 1 fT.toList/\W'.ownsRow W.heap.size 163 3 v 1 [.string ⟨#[98]⟩,vr,I J 69]/\LvO W pb A c lb jf jV 37 #[x0,x1,v,x3,x4,x5,x6,x7] W':=by
 have lp:=h.p.lt;have c1:=h.l.cell;have c2:=h.bp.cell 0;have c3:=h.bl.cell 0;have m1:=h.l.lt;have m2:=h.bp.lt;have m3:=h.bl.lt;have n1:=h.n1;have n4:=h.n4;have n5:=h.n5;have xl:∀u i,(jP (O pb) W u).cell? ⟨lb,i,U⟩=(#[x0,x1,G U 0 0,x3,x4,x5,x6,x7]:Array R)[i]?:=λ u i=>(fE lb i m1 (λ e=>by cases e;omega)).trans (c1 i);have xp:∀u,(jP (O pb) W u).cell? ⟨jf,0,U⟩=O (M (O ⟨pb,0,U⟩)):=λ u=>(fE jf 0 m2 (λ e=>by cases e;omega)).trans c2;have xq:∀u,(jP (O pb) W u).cell? ⟨jV,0,U⟩=O (M (O ⟨lb,0,U⟩)):=λ u=>(fE jV 0 m3 (λ e=>by cases e;omega)).trans c3;have HA:=aG h;have HO:Hid (Only (λ g=>O pb=O g) W W.drew):=aG ((Only.refl _ _).drew);clear h c1 c2 c3;go_enter func202,ntmps202;go_upto_region 0 with fail;refine ed (S:=λ w'=>∃u,w'=jP (O pb) W u) [([0,1,2,3,4,5,6],[7,8,9]),([10,11],[])] 12 aV aV (dT HO.o) ?_;(refine bT (λ K9 h9=>?_);simp only[aH,aU,aW,aa,ae];(repeat(go_big_quiet_step (fail)));refine wpQuiet_nil (h9 _ ?_);clear h9 K9)
 (refine cM (λ K9 h9=>?_);simp only[aW,aa,ae])
 go_wp2_with (go_at_call 203;refine(WV _ _ _ _ (HA.o.p.grow (qx W))).mono ?_;rintro r X1 ⟨vr,rfl,hr,hg⟩;obtain⟨A0,c0,rfl,-,-⟩:=fM hr;replace HO:=aG (HO.o.trans (GU hg));have HG:=dt hg (show X1.ownsRow W.heap.size 166 8 (G A0 1 c0) 1 fT.toList from hr);clear hg);refine h9 _ _ (dT HO.o) ?_;clear h9 K9;(refine cM (λ K9 h9=>?_);simp only[aW,aa,ae])
 refine jo (by rfl) _ 163 _ (by rfl) #[.string ⟨#[98]⟩,G A0 1 c0,I J 69] (by rfl) underlying80 aV bY bY aV ?_;show K9 _ _;go_simp;have FD:=HO.o.size;replace HO:=aG (HO.o.alloc (D #[.string ⟨#[98]⟩,G A0 1 c0,I J 69] 163));have BZ:=Bk.new X1 #[.string ⟨#[98]⟩,G A0 1 c0,I J 69] 163;refine h9 _ _ (dT HO.o) ?_;clear h9 K9;(refine cM (λ K9 h9=>?_);simp only[aW,aa,ae])
 refine mh rfl _ _ _ rfl 163 48 #[.string ⟨#[98]⟩,G A0 1 c0,I J 69] underlying80 aV bY rfl X1.heap.size rfl BZ aV cj ?_;intro A8 c8 w8 ew eM;show K9 _ _;go_simp;have hrow:=jr ew (b2:=W.heap.size) HO.o.size;replace HO:=aG (HO.o.below (eM.mono (by have :=HO.o.size;exact this)));have Ad:aZ X1 w8:=aq (aj X1 _) eM;have HR:=dt hrow Ad;refine h9 _ _ (dT HO.o) ?_;clear h9 K9 ew eM hrow BZ Ad;refine bU ?_;(refine bT (λ K9 h9=>?_);simp only[aH,aU,aW,aa,ae];(repeat(go_big_quiet_step (fail)));refine wpQuiet_nil (h9 _ ?_);clear h9 K9)
 refine bU (dF ?_);simp only[aW,aa,ae];have GV:Only (λ g=>g=pb) W w8:=HO.o.mono λ g hg=>(aO hg).symm;have C6:=HA.o.only (HG.q1.1.grow HR.t1) GV;clear xl xp xq HO;have c1:=C6.l.cell;have f1:=C6.l.free;have m5:=C6.l.lt;have H8:=dt C6 GV;clear C6 GV;go_wp2_with fail;have Q9:Only (λ g=>g=lb) w8 (w8.setCell ⟨lb,2,U⟩ (G A8 1 c8)):=(Only.refl (λ g=>g=lb) w8).aS (p:=⟨lb,2,U⟩) (.inl rfl) _;have hL9:=H8.q1.aS 2 (G A8 1 c8);have hr9:=ee HR.q1 Q9 (λ g hg=>by have :=(jd HR.q1 hg).1;omega);have iO:Only (λ g=>g=pb\/g=lb) W (w8.setCell ⟨lb,2,U⟩ (G A8 1 c8)):=(H8.t1.mono λ g hg=>.inl hg).trans (Q9.mono λ g hg=>.inr hg);go_end0;exact⟨⟨_,rfl⟩,_,ee (ee HG.t1 (aw (S:=λ g=>g=lb) HR.t1) (λ g hg=>by have :=(jd HG.t1 hg).1;omega)) Q9 (λ g hg=>by have :=(jd HG.t1 hg).1;omega),_,hr9,hL9,iO⟩
theorem kp{X:agb}{p b i:Nat}{u v:R}(hn:p≠b)(h:X.cell? ⟨p,0,U⟩=O v):(X.setCell ⟨b,i,U⟩ u).cell? ⟨p,0,U⟩=O v:=
 (World.cell?_of_block (a:=⟨p,0,U⟩) (Below.heap_setCell X ⟨b,i,U⟩ u p hn)).trans h
theorem ka{X:agb}{p:Nat}{o:Obj}{v:R}(h:X.cell? ⟨p,0,U⟩=O v):(X.alloc o).cell? ⟨p,0,U⟩=O v:=
 (World.cell?_of_block (a:=⟨p,0,U⟩) (Below.heap_alloc X o p (World.block_lt_of_cell? _ _ h))).trans h
abbrev arZ:Array R:=#[.string ⟨#[]⟩,I J 0,I J 0,I J 0,I J 0,I J 0,I J 0]
abbrev qW(n:Int):Array R:=#[.string ⟨#[115]⟩,I J 18,I J 20,I J 28,I J 24,I J n,I J 116]
theorem aau(W:agb)(pb:Nat)(A:dB)(c lb jf jV:Nat)(x0 x1 x2 x4 x5 x6 x7:R)(h:Lv W pb A c lb jf jV 38 #[x0,x1,x2,G U 0 0,x4,x5,x6,x7]):
 Calls prog 204 #[I J 116,M (O ⟨jf,0,U⟩),M (O ⟨jV,0,U⟩)] W λ r W'=>(∃v,r=.returned v)/\∃v,W'.ownsRow W.heap.size 171 7 v 1 (qW 2).toList/\LvO W pb A c lb jf jV 46 #[x0,x1,x2,v,x4,x5,x6,x7] W':=by
 have lp:=h.p.lt;have m1:=h.l.lt;have m2:=h.bp.lt;have m3:=h.bl.lt;have n1:=h.n1;have n4:=h.n4;have n5:=h.n5;have hA:=h.p.ne;have c2:=h.bp.cell 0;have Zi:=h.bp;have HA:=aG h;have hP:∀X,aZ W X->oT X pb A dX c 38 147:=λ X hX=>h.p.grow hX;have hT0:=pJ W.drew pb A dX c 38 147 _ _ _ _ (hP _ (qx W)) rfl;have hT1:=pJ (W.alloc (D arZ 171)).drew pb A dX c 38 147 _ _ _ _ (hP _ ((aj W _).drew)) rfl;have tJ:∀X,oT X pb A dX c (38+1) 147->Calls prog 205 #[M (O ⟨pb,0,U⟩)] X λ r W'=>r=.returned (.agg #[I J 18,I J 20,I J 28,I J 24])/\oT W' pb A dX c 43 147/\Only (λ g=>g=pb) X W':=λ X hX=>NM X pb A dX c 39 147 18 20 28 24 hX aV
 have hk:∀X X',Only (λ g=>g=pb) X X'->jf<X.heap.size->X.cell? ⟨jf,0,U⟩=O (M (O ⟨pb,0,U⟩))->X'.cell? ⟨jf,0,U⟩=O (M (O ⟨pb,0,U⟩)):=λ X X' ho hl hc=>by rw[World.cell?_of_block (a:=⟨jf,0,U⟩) (ho.block jf hl ar)];exact hc
 have Sd:∀X',Only (λ g=>g=pb) W.drew X'->X'.cell? ⟨jf,0,U⟩=O (M (O ⟨pb,0,U⟩)):=λ X' ho=>hk _ _ ho Zi.drew.lt (Zi.drew.cell 0);have Js:∀X',Only (λ g=>g=pb) (W.alloc (D arZ 171)).drew X'->X'.cell? ⟨jf,0,U⟩=O (M (O ⟨pb,0,U⟩)):=λ X' ho=>hk _ _ ho (Zi.alloc _).drew.lt ((Zi.alloc _).drew.cell 0);have hk2:∀X',Only (λ g=>g=pb) (W.alloc (D arZ 171)).drew X'->Bk X' W.heap.size arZ 171:=λ X' ho=>(Bk.new W arZ 171).drew.only ho (by show ¬W.heap.size=pb;omega);have cd:W.drew.cell? ⟨jf,0,U⟩=O (M (O ⟨pb,0,U⟩)):=Zi.drew.cell 0;have cd2:((W.alloc (D arZ 171)).drew).cell? ⟨jf,0,U⟩=O (M (O ⟨pb,0,U⟩)):=(Zi.alloc _).drew.cell 0;have HB:=yJ hT0 hT1 tJ hk Sd Js hk2;clear hT0 hT1 tJ hk Sd Js hk2 h hP Zi;go_enter func204,ntmps204;go_upto_region 0 with fail;go_cut [4] (λ p X'=>∃ab,p=M (O ⟨ab,0,U⟩)/\oT X' pb A dX c 43 147/\Bk X' ab (qW 0) 171/\Only (λ g=>g=pb) W X'/\W.heap.size<=ab)
 case first =>
  go_region_held3 (λ W'=>W'.cell? ⟨jf,0,U⟩=O (M (O ⟨pb,0,U⟩))) (repeat(first|with_reducible assumption|omega |(with_reducible refine kp ?_ ?_)|(with_reducible refine ka ?_)))
   (first
    |(go_at_call 108;with_reducible refine HB.q1.mono ?_;rintro r X1 ⟨rfl,hg⟩;have HG:=aG hg;have Js:=HB.q5 _ hg.2;have lk1:jf<X1.heap.size:=World.block_lt_of_cell? _ _ Js;clear hg)
    |(go_at_call 108;with_reducible refine HB.q2.mono ?_;rintro r X1 ⟨rfl,hg⟩;have HG:=aG hg;have Js:=HB.q6 _ hg.2;have lk1:jf<X1.heap.size:=World.block_lt_of_cell? _ _ Js;have bk1:=HB.t6 _ hg.2;have bc1:=bk1.cell;have bf1:=bk1.free;have bl1:=bk1.lt;have HK1:=aG bk1;clear bk1;clear hg)
    |(go_at_call 205;with_reducible refine(HB.q3 _ HG.q1).mono ?_;rintro r X2 ⟨rfl,hga,hg⟩;have HX:=dt hga hg;have hk2:=HB.q4 _ _ hg (World.block_lt_of_cell? _ _ Js) Js;have lk2:jf<X2.heap.size:=World.block_lt_of_cell? _ _ hk2;try(have Sg:=HK1.o.only hg ar;have bc2:=Sg.cell;have bf2:=Sg.free;have bl2:=Sg.lt;have HK2:=aG Sg;clear Sg);clear hga hg)
    |(go_at_call 205;with_reducible refine(HB.q3 _ (HG.q1.grow (aj _ _))).mono ?_;rintro r X2 ⟨rfl,hga,hg⟩;have HX:=dt hga hg;have hk2:=HB.q4 _ _ hg (dI (World.block_lt_of_cell? _ _ Js) bY) (ka Js);have lk2:jf<X2.heap.size:=World.block_lt_of_cell? _ _ hk2;have Sg:=(Bk.new X1 arZ 171).only hg (by have :=HG.q1.lt;show ¬X1.heap.size=pb;omega);have bc2:=Sg.cell;have bf2:=Sg.free;have bl2:=Sg.lt;have HK2:=aG Sg;clear Sg;clear hga hg))
  · go_wp2_with fail
    go_meet;have h1:=HG.t1.size;have h2:=HX.t1.size;have ho:Only (λ g=>g=pb) W X2:=((Only.refl _ W).drew.trans HG.t1).trans HX.t1;exact⟨X2.heap.size,rfl,HX.q1.grow (aj _ _),Bk.new _ _ _,ho.alloc _,ho.size⟩
  · go_wp2_with fail
    go_meet;have h1:=HG.t1.size;have tr:Only (λ g=>g=pb) W X1:=(Only.refl _ W).drew.trans HG.t1;have hz:=tr.size;have ho:Only (λ g=>g=pb) W X2:=(tr.alloc _).trans HX.t1;have hw:=iA (b:=X1.heap.size) (qW 0).toList 0 X2;exact⟨X1.heap.size,rfl,HX.q1.only hw ar (λ g off q=>by have :=hA g off q;omega),jF HK2.o (qW 0) rfl,ho.trans' hw λ g hg=>.inr ar,hz⟩
  · go_wp2_with fail
    go_meet;have ho:Only (λ g=>g=pb) W X2:=((aw (aj W _)).drew.trans HG.t1).trans HX.t1;have hw:=iA (b:=W.heap.size) (qW 0).toList 0 X2;exact⟨W.heap.size,rfl,HX.q1.only hw ar (λ g off q=>by have :=hA g off q;omega),jF HK2.o (qW 0) rfl,ho.trans' hw λ g hg=>.inr ar,ah _⟩
 case rest=>
  obtain⟨X,Ae⟩:∃X,X=wc:=⟨_,rfl⟩;rw[<-Ae] at hcut⊢;clear Ae HB cd cd2;obtain⟨ab,rfl,g1,g2,g3,g4⟩:=hcut
  have HS:Hid (vd W pb A dX c 147 ab 171 (λ X=>Bk X lb #[x0,x1,x2,G U 0 0,x4,x5,x6,x7] 85/\Bk X jf #[M (O ⟨pb,0,U⟩)] 229/\Bk X jV #[M (O ⟨lb,0,U⟩)] 302) 43 (qW 0) X):=by have hL:=HA.o.only g1 g3;exact aG ⟨g1,g2,⟨hL.l,hL.bp,hL.bl⟩,g3.mono λ g hg=>.inl hg,ar,λ g off q=>by have :=hA g off q;omega,λ X X' ho hk=>⟨hk.1.only ho ar,hk.2.1.only ho ar,hk.2.2.only ho ar⟩⟩
  have c2:=HS.o.f.2.1.cell 0;have l2:=HS.o.f.2.1.lt;clear g1 g2 g3
  go_upto_region 4 with(first
   |(go_at_call 107;refine(jG _ _ _ dX _ _ 147 _ _ _ _ HS.o.p rfl rfl).mono ?_;rintro r X ⟨⟨v,rfl⟩,hg⟩;replace HS:=aG (HS.o.go hg);clear hg;have c2:=HS.o.f.2.1.cell 0;have l2:=HS.o.f.2.1.lt)
   |(go_at_call 109;refine(mM HS.o.p [(5,2)] 1 HS.o.b aV HS.o.ne HS.o.na rfl ar bY).mono ?_;rintro r X ⟨⟨v,rfl⟩,hg⟩;replace HS:=aG (HS.o.Jw hg);clear hg;have c2:=HS.o.f.2.1.cell 0;have l2:=HS.o.f.2.1.lt))
  have hD:=HS.o.done g4;have hL:Lv X pb A c lb jf jV 46 #[x0,x1,x2,G U 0 0,x4,x5,x6,x7]:=HA.o.only hD.1 hD.2;have hB:Bk X ab (qW 2) 171:=HS.o.b;have HD:=dt hD.2 hL;clear c2;have c1:=hL.l.cell;have c2:=hL.bp.cell 0;have c3:=hL.bl.cell 0;have c4:=hB.cell;have m1:=hL.l.lt;have m2:=hL.bp.lt;have m3:=hL.bl.lt;have m4:=hB.lt;have hz:=hD.2.size;clear hD hL hB HS;have HO:Hid (aZ X X.drew):=aG ((aA _ X).drew);refine ed (S:=λ w'=>∃u,w'=ext X u) [([0,1,2,3,4,5],[6,7]),([8,9],[])] 10 aV aV (iJ HO.o) ?_;(refine bT (λ K9 h9=>?_);simp only[aH,aU,aW,aa,ae];(repeat(go_big_quiet_step (fail)));refine wpQuiet_nil (h9 _ ?_);clear h9 K9)
  (refine cM (λ K9 h9=>?_);simp only[aW,aa,ae])
  refine jo (by rfl) _ 171 _ (by rfl) (qW 2) (by rfl) underlying81 aV bY bY aV ?_;show K9 _ _;go_simp;replace HO:=aG (HO.o.alloc HO.o.size (D (qW 2) 171));have BZ:=Bk.new X.drew (qW 2) 171;refine h9 _ _ (iJ HO.o) ?_;clear h9 K9;(refine cM (λ K9 h9=>?_);simp only[aW,aa,ae])
  refine mh rfl _ _ _ rfl 171 64 (qW 2) underlying81 aV cj rfl X.drew.heap.size rfl BZ aV cj ?_;intro A8 c8 w8 ew eM;show K9 _ _;go_simp;have hrow:=jr ew (b2:=X.heap.size) HO.o.size;replace HO:=aG (aq HO.o eM);have HR:=aG hrow;refine h9 _ _ (iJ HO.o) ?_;clear h9 K9 ew eM hrow BZ;refine bU ?_;(refine bT (λ K9 h9=>?_);simp only[aH,aU,aW,aa,ae];(repeat(go_big_quiet_step (fail)));refine wpQuiet_nil (h9 _ ?_);clear h9 K9)
  refine bU (dF ?_);simp only[aW,aa,ae];clear c1 c2 c3 c4;have C6:=HD.t1.below HO.o;have c1:=C6.l.cell;have f1:=C6.l.free;have m5:=C6.l.lt;have H8:=aG C6;clear C6;go_wp2_with fail;go_end0;have Q9:Only (λ g=>g=lb) w8 (w8.setCell ⟨lb,3,U⟩ (G A8 1 c8)):=(Only.refl (λ g=>g=lb) w8).aS (p:=⟨lb,3,U⟩) (.inl rfl) _;refine⟨⟨_,rfl⟩,_,jr (ee HR.o Q9 (λ g hg=>by have :=(jd HR.o hg).1;omega)) hz,H8.o.aS 3 _,?_⟩;exact((HD.q1.mono λ g hg=>.inl hg).trans (aw HO.o)).trans (Q9.mono λ g hg=>.inr hg)
def yZ(jf jV:Nat):List (BA0×R):=[(⟨#[98,108,111,99,107]⟩,.func (.func 202) #[] #[M (O ⟨jV,0,U⟩),M (O ⟨jf,0,U⟩)]),(⟨#[97,114,101,97]⟩,.func (.func 204) #[] #[M (O ⟨jf,0,U⟩),M (O ⟨jV,0,U⟩)]),(⟨#[97,105,115,108,101]⟩,.func (.func 206) #[] #[M (O ⟨jV,0,U⟩),M (O ⟨jf,0,U⟩)]),(⟨#[112,105,108,108,97,114]⟩,.func (.func 207) #[] #[M (O ⟨jV,0,U⟩),M (O ⟨jf,0,U⟩)]),(⟨#[100,111,111,114]⟩,.func (.func 208) #[] #[M (O ⟨jf,0,U⟩),M (O ⟨jV,0,U⟩)])]
theorem Pk(W:agb)(pb lb:Nat):Calls prog 175 #[M (O ⟨pb,0,U⟩),M (O ⟨lb,0,U⟩)] W λ r W'=>r=.returned (.map (O (W.heap.size+2)))/\cS W' (W.heap.size+2) (yZ W.heap.size (W.heap.size+1))/\Bk W' W.heap.size #[M (O ⟨pb,0,U⟩)] 229/\Bk W' (W.heap.size+1) #[M (O ⟨lb,0,U⟩)] 302/\aZ W W':=by
 have qf:= @run_makeMap prog;obtain⟨Y,hY⟩:∃Y,(W.alloc (D #[M (O ⟨pb,0,U⟩)] 229)).alloc (D #[M (O ⟨lb,0,U⟩)] 302)=Y:=⟨_,rfl⟩;have hz:Y.heap.size=W.heap.size+2:=by rw[<-hY];simp
 have H0:Hid (cS (((W.alloc (D #[M (O ⟨pb,0,U⟩)] 229)).alloc (D #[M (O ⟨lb,0,U⟩)] 302)).alloc (.map #[] 0)) (W.heap.size+2) []/\Only (λ g=>g=W.heap.size+2) Y (((W.alloc (D #[M (O ⟨pb,0,U⟩)] 229)).alloc (D #[M (O ⟨lb,0,U⟩)] 302)).alloc (.map #[] 0))):=by rw[hY];have :=cS.new Y;rw[hz] at this;exact aG ⟨this,(Only.refl _ _).alloc _⟩
 have HY:=dt hY hz;clear hY hz;go_enter func175,ntmps175
 go_wp2_with (first
  |(refine eH rfl _ _ _ _ rfl 9 158 kR bn rfl H0.q1 ⟨#[98,108,111,99,107]⟩ rfl rfl (.func (.func 202) #[] #[M (O ⟨W.heap.size+1,0,U⟩),M (O ⟨W.heap.size,0,U⟩)]) rfl ?_;intro wC hC oC;replace H0:=dt hC (H0.t1.trans oC);clear hC oC)
  |(refine eH rfl _ _ _ _ rfl 9 158 kR bn rfl H0.q1 ⟨#[97,114,101,97]⟩ rfl rfl (.func (.func 204) #[] #[M (O ⟨W.heap.size,0,U⟩),M (O ⟨W.heap.size+1,0,U⟩)]) rfl ?_;intro wC hC oC;replace H0:=dt hC (H0.t1.trans oC);clear hC oC)
  |(refine eH rfl _ _ _ _ rfl 9 158 kR bn rfl H0.q1 ⟨#[97,105,115,108,101]⟩ rfl rfl (.func (.func 206) #[] #[M (O ⟨W.heap.size+1,0,U⟩),M (O ⟨W.heap.size,0,U⟩)]) rfl ?_;intro wC hC oC;replace H0:=dt hC (H0.t1.trans oC);clear hC oC)
  |(refine eH rfl _ _ _ _ rfl 9 158 kR bn rfl H0.q1 ⟨#[112,105,108,108,97,114]⟩ rfl rfl (.func (.func 207) #[] #[M (O ⟨W.heap.size+1,0,U⟩),M (O ⟨W.heap.size,0,U⟩)]) rfl ?_;intro wC hC oC;replace H0:=dt hC (H0.t1.trans oC);clear hC oC)
  |(refine eH rfl _ _ _ _ rfl 9 158 kR bn rfl H0.q1 ⟨#[100,111,111,114]⟩ rfl rfl (.func (.func 208) #[] #[M (O ⟨W.heap.size,0,U⟩),M (O ⟨W.heap.size+1,0,U⟩)]) rfl ?_;intro wC hC oC;replace H0:=dt hC (H0.t1.trans oC);clear hC oC))
 go_ret;have b0:Bk Y W.heap.size #[M (O ⟨pb,0,U⟩)] 229:=by rw[<-HY.q1];exact(Bk.new W _ _).alloc _
 have b1:Bk Y (W.heap.size+1) #[M (O ⟨lb,0,U⟩)] 302:=by rw[<-HY.q1];exact au _ _ _ _ bY
 have hb:aZ W Y:=by rw[<-HY.q1];exact dE
 exact⟨rfl,H0.q1,b0.only H0.t1 ar,b1.only H0.t1 ar,fV hb H0.t1 ar⟩
end
section
open Go.RowKit
theorem Sh(fn:Fn)(a c:Array R)(w:agb):(binOp .eql 158 (.func fn a c) .nilFunc).run prog w=.ok (.bool false) w:=aV
theorem uO(w:agb):(zeroValue 158).run prog w=.ok .nilFunc w:=aV
attribute [local go_sem] aQ aC bW kC kD Sh
section
variable{P:Program}{o:Oper}{a:Act}{b:Nat}{l:List (BA0×R)}
theorem nW{K:Act->Prop}{C:agb->Prop}(mm x:Operand)(t:TypeId)(hop:o.op=Op.lookup t mm x false)(kt e:TypeId)(ht:P.underlying t=O (.map kt e))(hk:P.underlying kt=O .string)(z:R)(hz:∀w,(zeroValue e).run P w=.ok z w)
 (hm:a.eval mm=.map (O b))(h:∀w,C w->cS w b l)(k:BA0)(hx:a.eval x=.string k)(hK:K (a.put o.dst ((fJ k l).getD z))):o.quiet P a C K:=by
 refine⟨_,λ w hC=>?_,hK⟩;have hrun:=(h w hC).look ht hk (hz w) k;unfold Oper.quietAt execOp;simp only[hop,hm,hx,Sem.run_bind,hrun,Result.andThen_ok,Sem.run_pure];exact⟨rfl,rfl⟩
end
abbrev lvZ:Array R:=#[.string ⟨#[]⟩,I J 0,G U 0 0,G U 0 0,G U 0 0,G U 0 0,G U 0 0,I J 0]
structure Lr(W:agb)(pb:Nat)(A:dB)(c lb jf jV mb:Nat)(F:agb->Prop)(k:Nat)(C:Array R)(X:agb):Prop where
 v:Lv X pb A c lb jf jV k C
 m:cS X mb (yZ jf jV)
 r:Bk X W.heap.size lvZ 85
 f:F X
 o:Only (λ g=>g=pb) W X
 h1:mb≠pb/\mb≠lb/\pb<W.heap.size/\W.heap.size<lb
 st:∀X X',Only (λ g=>g=pb\/g=lb) X X'->F X->F X'
section
variable{W X X':agb}{pb:Nat}{A:dB}{c lb jf jV mb k k':Nat}{C C':Array R}{F:agb->Prop}
theorem Lr.item(h:Lr W pb A c lb jf jV mb F k C X)(hg:LvO X pb A c lb jf jV k' C' X'):Lr W pb A c lb jf jV mb F k' C' X':=by have h1:=h.h1;exact⟨hg.1,h.m.only hg.2 ar,h.r.only hg.2 ar,h.st _ _ hg.2 h.f,h.o.trans' hg.2 (λ g hg=>hg.imp id (λ q=>ar)),h1,h.st⟩
theorem Lr.go(h:Lr W pb A c lb jf jV mb F k C X)(hg:NL pb A dX c k' 147 X X'):Lr W pb A c lb jf jV mb F k' C X':=h.item ⟨h.v.only hg.1 hg.2,hg.2.mono λ g hg=>.inl hg⟩
theorem Lr.grow(h:Lr W pb A c lb jf jV mb F k C X)(hb:aZ X X'):Lr W pb A c lb jf jV mb F k C X':=h.item ⟨h.v.below hb,aw hb⟩
theorem Lr.next(h:Lr W pb A c lb jf jV mb F k C X):Lr W pb A c lb jf jV mb F (k+1) C (X.setCell ⟨pb,1,U⟩ (I J ((k+1:Nat):Int))):=h.go (h.v.p.step)
theorem Lr.acu(h:Lr W pb A c lb jf jV mb F k C X){F':agb->Prop}(hf:F' X)(st:∀X X',Only (λ g=>g=pb\/g=lb) X X'->F' X->F' X'):Lr W pb A c lb jf jV mb F' k C X:=⟨h.v,h.m,h.r,hf,h.o,h.h1,st⟩
end
theorem kE{lo pb lb:Nat}{e:TypeId}{n:Nat}{v:R}{xs:List R}(h1:pb<lo)(h2:lb<lo):∀X X',Only (λ g=>g=pb\/g=lb) X X'->X.ownsRow lo e n v 1 xs->X'.ownsRow lo e n v 1 xs:=λ X X' ho h=>ee h ho λ g hg=>by have :=(jd h hg).1;omega
theorem WX(W:agb)(pb:Nat)(A:dB)(c:Nat)(h:oT W pb A dX c 6 147):
 Calls prog 111 #[M (O ⟨pb,0,U⟩)] W λ r W'=>∃vr v2 v3 v4 v6,r=.returned (.agg #[.string ⟨#[108,111,119]⟩,I J 0,v2,v3,v4,G U 0 0,v6,I J 19])/\
  W'.ownsRow W.heap.size 166 8 vr 1 fT.toList/\W'.ownsRow W.heap.size 163 3 v2 1 [.string ⟨#[98]⟩,vr,I J 69]/\W'.ownsRow W.heap.size 171 7 v3 1 (qW 2).toList/\W'.ownsRow W.heap.size 169 4 v4 1 [I J 10,I J 0,I J 18,I J 30]/\W'.ownsRow W.heap.size 23 2 v6 1 [I J 10,I J 0]/\NL pb A dX c 47 147 W W':=by
 have lp:=h.lt;have hA:=h.ne;have hat:=λ X (hX:aZ W X)=>yX X pb A dX c 6 147 _ _ _ _ (h.grow hX) rfl;have kW:=dt h hat;clear h hat;go_enter func111,ntmps111;go_upto_region 2 with(go_at_call 174;refine(kW.t1 _ dE).mono ?_;rintro r Y ⟨rfl,hb⟩;have HB:=aG hb;clear hb);obtain⟨lb,oy⟩:∃x,Y.heap.size=x:=⟨_,rfl⟩;have hz:=HB.o.size
 have hL:vd W pb A dX c 147 lb 85 (λ X=>Bk X W.heap.size lvZ 85) 6 #[.string ⟨#[]⟩,I J 0,G U 0 0,G U 0 0,G U 0 0,G U 0 0,G U 0 0,I J 19] (Y.alloc (D #[.string ⟨#[]⟩,I J 0,G U 0 0,G U 0 0,G U 0 0,G U 0 0,G U 0 0,I J 19] 85)):=by have hb:aZ W Y:=aq dE HB.o;refine⟨kW.q1.grow dE,au _ _ _ _ oy,?_,aw dE,by simp at hz;omega,λ g off q=>by have :=hA g off q;simp at hz;omega,λ X X' ho hk=>hk.only ho (by simp at hz;omega)⟩;exact((Bk.new W _ _).below HB.o).alloc _
 have ad2:W.heap.size<lb:=by simp at hz;omega
 rw[oy];refine forget (λ X=>vd W pb A dX c 147 lb 85 (λ X=>Bk X W.heap.size lvZ 85) 6 #[.string ⟨#[]⟩,I J 0,G U 0 0,G U 0 0,G U 0 0,G U 0 0,G U 0 0,I J 19] X) hL ?_;clear hL oy HB hz kW;clear Y;intro X hL;have HS:=aG hL;have LM:=hL.b.lt;have fb:=hL.b.free;have cb:=hL.b.cell;clear hL;go_upto_region 4 with(first|(go_at_call 107;refine(jG _ _ _ dX _ _ 147 _ _ _ _ HS.o.p rfl rfl).mono ?_;rintro r X ⟨⟨v,rfl⟩,hg⟩;replace HS:=aG (HS.o.go hg);clear hg)|(go_at_call 108;refine(pJ _ _ _ dX _ _ 147 _ _ _ _ HS.o.p rfl).mono ?_;rintro r X ⟨rfl,hg⟩;replace HS:=aG (HS.o.go hg);have LM:=HS.o.b.lt;have fb:=HS.o.b.free;have cb:=HS.o.b.cell;clear hg));replace HS:=aG (HS.o.aS 0 (.string ⟨#[108,111,119]⟩));clear LM fb cb;go_upto_region 7 with(first|(go_at_call 107;refine(jG _ _ _ dX _ _ 147 _ _ _ _ HS.o.p rfl rfl).mono ?_;rintro r X ⟨⟨v,rfl⟩,hg⟩;replace HS:=aG (HS.o.go hg);clear hg)|(go_at_call 109;refine(mM HS.o.p [(1,0)] 1 HS.o.b aV HS.o.ne HS.o.na rfl ar bY).mono ?_;rintro r X ⟨⟨v,rfl⟩,hg⟩;replace HS:=aG (HS.o.Jw hg);clear hg));go_upto_region 8 with(go_at_call 175;refine(Pk _ _ _).mono ?_;rintro r Y ⟨rfl,hm,hp,hl,hb⟩;have HI:=iM hm hp hl hb;clear hm hp hl hb);obtain⟨jf,hpp⟩:∃x,X.heap.size=x:=⟨_,rfl⟩
 have hR:Lr W pb A c lb jf (jf+1) (jf+2) (λ _=>True) 11 #[.string ⟨#[108,111,119]⟩,I J 0,G U 0 0,G U 0 0,G U 0 0,G U 0 0,G U 0 0,I J 19] Y:=by rw[<-hpp];have hL:=HS.o.grow HI.t3;have h0:=HS.o.p.lt;have h1:=HS.o.b.lt;exact⟨⟨hL.p,hL.b,HI.q2,HI.q3,ar,ar,ar,ar,ar⟩,HI.q1,hL.f,trivial,(hL.done (gS ad2)).2,⟨ar,ar,lp,ad2⟩,λ _ _ _ _=>trivial⟩
 rw[hpp];obtain⟨jV,hlp⟩:∃x,jf+1=x:=⟨_,rfl⟩;obtain⟨mb,ug⟩:∃x,jf+2=x:=⟨_,rfl⟩;rw[hlp,ug] at hR;rw[ug];refine forget (λ X=>Lr W pb A c lb jf jV mb (λ _=>True) 11 #[.string ⟨#[108,111,119]⟩,I J 0,G U 0 0,G U 0 0,G U 0 0,G U 0 0,G U 0 0,I J 19] X) hR ?_;clear hR HI HS hpp hlp ug;clear Y X;intro X hR;have HR:=aG hR;clear hR;obtain⟨b,off,rfl,-⟩:=HR.o.v.p.pick (i:=11) rfl;refine wp_loop_rounds 5 ?_;rw[rounds_succ];go_upto_region 10 with(first|(go_at_call 110;refine(FC _ _ _ dX _ _ 147 _ _ _ _ _ HR.o.v.p rfl rfl rfl).mono ?_;rintro r X ⟨rfl,hg⟩;replace HR:=aG (HR.o.grow hg);clear hg)|(go_at_call 174;refine(yX _ _ _ dX _ _ 147 _ _ _ _ HR.o.v.p rfl).mono ?_;rintro r X ⟨rfl,hg⟩;replace HR:=aG (HR.o.grow hg);clear hg));obtain⟨b',off',e',hb,d0,d1,d2,d3,kq⟩:=HR.o.v.p.pick (i:=11) rfl;obtain⟨rfl,rfl⟩:b=b'/\off=off':=by cases e';exact⟨rfl,rfl⟩
 clear e';have c0:=HR.o.v.p.blk.cell 0;have c1:=HR.o.v.p.blk.cell 1;have f1:=HR.o.v.p.blk.free 1;have WY:=HR.o.v.p.lt;have lc:=HR.o.v.p.cap;have V5:b<X.heap.size:=ar;have C7:((11:Nat):Int)<(dX.length:Int):=ar;refine bJ X aV aV ?_
 iterate 12 (go_big_quiet_step (fail))
 go_big_quiet_want
 refine nW _ _ _ rfl 9 158 kR bn .nilFunc uO rfl (λ w9 qh=>by obtain⟨u9,rfl⟩:=qh;exact HR.o.m.below (aT _ _)) ⟨#[100,111,111,114]⟩ rfl ?_;rw[show fJ ⟨#[100,111,111,114]⟩ (yZ jf jV)=O (.func (.func 208) #[] #[M (O ⟨jf,0,U⟩),M (O ⟨jV,0,U⟩)]) from rfl,dD];go_simp;go_big_quiet_on
 repeat(go_big_quiet_step (fail))
 refine wpQuiet_nil (λ v=>?_);replace HR:=aG (HR.o.grow (aT X v));go_upto_region 14 with fail;have hN:=HR.o.next;refine forget (λ X=>Lr W pb (O ⟨b,off,U⟩) c lb jf jV mb (λ _=>True) 12 #[.string ⟨#[108,111,119]⟩,I J 0,G U 0 0,G U 0 0,G U 0 0,G U 0 0,G U 0 0,I J 19] X) hN ?_;clear hN HR c0 c1 f1 WY V5 d0 d1 d2 d3 hb kq C7;clear X v;intro X hN;have HR:=aG hN;have Lf:=HR.o.v.l.lt;clear hN;go_wp2_with (go_at_call 208;go_loud (refine(aas _ _ _ _ _ _ _ _ _ _ _ _ _ _ HR.o.v).mono ?_;rintro r Y ⟨⟨v,rfl⟩,v6,ho6,hg⟩;obtain⟨l6,hl6⟩:∃x,X.heap.size=x:=⟨_,rfl⟩;rw[hl6] at Lf ho6;have aoY:pb<l6/\lb<l6:=⟨by have :=HR.o.v.n1;omega,Lf⟩;replace HR:=HR.o.item hg;have hf:=HR.f;replace HR:=aG (HR.acu (F':=λ Z=>Z.ownsRow l6 23 2 v6 1 [I J 10,I J 0]) (ho6) (λ X X' ho hk=>kE ar ar X X' ho hk));clear hg));rw[rounds_succ];refine forget (λ X=>Lr W pb (O ⟨b,off,U⟩) c lb jf jV mb (λ Z=>Z.ownsRow l6 23 2 v6 1 [I J 10,I J 0]) 15 #[.string ⟨#[108,111,119]⟩,I J 0,G U 0 0,G U 0 0,G U 0 0,G U 0 0,v6,I J 19] X) HR.o ?_;clear HR Lf lc ho6 hl6 hf;clear Y X;intro X hR;have HR:=aG hR;clear hR;go_upto_region 10 with(first|(go_at_call 110;refine(FC _ _ _ dX _ _ 147 _ _ _ _ _ HR.o.v.p rfl rfl rfl).mono ?_;rintro r X ⟨rfl,hg⟩;replace HR:=aG (HR.o.grow hg);clear hg)|(go_at_call 174;refine(yX _ _ _ dX _ _ 147 _ _ _ _ HR.o.v.p rfl).mono ?_;rintro r X ⟨rfl,hg⟩;replace HR:=aG (HR.o.grow hg);clear hg));obtain⟨b',off',e',hb,d0,d1,d2,d3,kq⟩:=HR.o.v.p.pick (i:=15) rfl;obtain⟨rfl,rfl⟩:b=b'/\off=off':=by cases e';exact⟨rfl,rfl⟩
 clear e';have c0:=HR.o.v.p.blk.cell 0;have c1:=HR.o.v.p.blk.cell 1;have f1:=HR.o.v.p.blk.free 1;have WY:=HR.o.v.p.lt;have lc:=HR.o.v.p.cap;have V5:b<X.heap.size:=ar;have C7:((15:Nat):Int)<(dX.length:Int):=ar;refine bJ X aV aV ?_
 iterate 12 (go_big_quiet_step (fail))
 go_big_quiet_want
 refine nW _ _ _ rfl 9 158 kR bn .nilFunc uO rfl (λ w9 qh=>by obtain⟨u9,rfl⟩:=qh;exact HR.o.m.below (aT _ _)) ⟨#[97,105,115,108,101]⟩ rfl ?_;rw[show fJ ⟨#[97,105,115,108,101]⟩ (yZ jf jV)=O (.func (.func 206) #[] #[M (O ⟨jV,0,U⟩),M (O ⟨jf,0,U⟩)]) from rfl,dD];go_simp;go_big_quiet_on
 repeat(go_big_quiet_step (fail))
 refine wpQuiet_nil (λ v=>?_);replace HR:=aG (HR.o.grow (aT X v));go_upto_region 14 with fail;have hN:=HR.o.next;refine forget (λ X=>Lr W pb (O ⟨b,off,U⟩) c lb jf jV mb (λ Z=>Z.ownsRow l6 23 2 v6 1 [I J 10,I J 0]) 16 #[.string ⟨#[108,111,119]⟩,I J 0,G U 0 0,G U 0 0,G U 0 0,G U 0 0,v6,I J 19] X) hN ?_;clear hN HR c0 c1 f1 WY V5 d0 d1 d2 d3 hb kq C7;clear X v;intro X hN;have HR:=aG hN;have Lf:=HR.o.v.l.lt;clear hN;go_wp2_with (go_at_call 206;go_loud (refine(WW _ _ _ _ _ _ _ _ _ _ _ _ _ _ HR.o.v).mono ?_;rintro r Y ⟨⟨v,rfl⟩,v4,ho4,hg⟩;obtain⟨l4,hl4⟩:∃x,X.heap.size=x:=⟨_,rfl⟩;rw[hl4] at Lf ho4;have aoZ:pb<l4/\lb<l4:=⟨by have :=HR.o.v.n1;omega,Lf⟩;replace HR:=HR.o.item hg;have hf:=HR.f;replace HR:=aG (HR.acu (F':=λ Z=>Z.ownsRow l6 23 2 v6 1 [I J 10,I J 0]/\Z.ownsRow l4 169 4 v4 1 [I J 10,I J 0,I J 18,I J 30]) (⟨hf,ho4⟩) (λ X X' ho hk=>⟨kE ar ar X X' ho hk.1,kE ar ar X X' ho hk.2⟩));clear hg));rw[rounds_succ];refine forget (λ X=>Lr W pb (O ⟨b,off,U⟩) c lb jf jV mb (λ Z=>Z.ownsRow l6 23 2 v6 1 [I J 10,I J 0]/\Z.ownsRow l4 169 4 v4 1 [I J 10,I J 0,I J 18,I J 30]) 21 #[.string ⟨#[108,111,119]⟩,I J 0,G U 0 0,G U 0 0,v4,G U 0 0,v6,I J 19] X) HR.o ?_;clear HR Lf lc ho4 hl4 hf;clear Y X;intro X hR;have HR:=aG hR;clear hR;go_upto_region 10 with(first|(go_at_call 110;refine(FC _ _ _ dX _ _ 147 _ _ _ _ _ HR.o.v.p rfl rfl rfl).mono ?_;rintro r X ⟨rfl,hg⟩;replace HR:=aG (HR.o.grow hg);clear hg)|(go_at_call 174;refine(yX _ _ _ dX _ _ 147 _ _ _ _ HR.o.v.p rfl).mono ?_;rintro r X ⟨rfl,hg⟩;replace HR:=aG (HR.o.grow hg);clear hg));obtain⟨b',off',e',hb,d0,d1,d2,d3,kq⟩:=HR.o.v.p.pick (i:=21) rfl;obtain⟨rfl,rfl⟩:b=b'/\off=off':=by cases e';exact⟨rfl,rfl⟩
 clear e';have c0:=HR.o.v.p.blk.cell 0;have c1:=HR.o.v.p.blk.cell 1;have f1:=HR.o.v.p.blk.free 1;have WY:=HR.o.v.p.lt;have lc:=HR.o.v.p.cap;have V5:b<X.heap.size:=ar;have C7:((21:Nat):Int)<(dX.length:Int):=ar;refine bJ X aV aV ?_
 iterate 12 (go_big_quiet_step (fail))
 go_big_quiet_want
 refine nW _ _ _ rfl 9 158 kR bn .nilFunc uO rfl (λ w9 qh=>by obtain⟨u9,rfl⟩:=qh;exact HR.o.m.below (aT _ _)) ⟨#[98,108,111,99,107]⟩ rfl ?_;rw[show fJ ⟨#[98,108,111,99,107]⟩ (yZ jf jV)=O (.func (.func 202) #[] #[M (O ⟨jV,0,U⟩),M (O ⟨jf,0,U⟩)]) from rfl,dD];go_simp;go_big_quiet_on
 repeat(go_big_quiet_step (fail))
 refine wpQuiet_nil (λ v=>?_);replace HR:=aG (HR.o.grow (aT X v));go_upto_region 14 with fail;have hN:=HR.o.next;refine forget (λ X=>Lr W pb (O ⟨b,off,U⟩) c lb jf jV mb (λ Z=>Z.ownsRow l6 23 2 v6 1 [I J 10,I J 0]/\Z.ownsRow l4 169 4 v4 1 [I J 10,I J 0,I J 18,I J 30]) 22 #[.string ⟨#[108,111,119]⟩,I J 0,G U 0 0,G U 0 0,v4,G U 0 0,v6,I J 19] X) hN ?_;clear hN HR c0 c1 f1 WY V5 d0 d1 d2 d3 hb kq C7;clear X v;intro X hN;have HR:=aG hN;have Lf:=HR.o.v.l.lt;clear hN;go_wp2_with (go_at_call 202;go_loud (refine(Sc _ _ _ _ _ _ _ _ _ _ _ _ _ _ HR.o.v).mono ?_;rintro r Y ⟨⟨v,rfl⟩,vr,v2,tr,tI,hg⟩;obtain⟨l2,hl2⟩:∃x,X.heap.size=x:=⟨_,rfl⟩;rw[hl2] at Lf tr tI;have ao0:pb<l2/\lb<l2:=⟨by have :=HR.o.v.n1;omega,Lf⟩;replace HR:=HR.o.item hg;have hf:=HR.f;replace HR:=aG (HR.acu (F':=λ Z=>Z.ownsRow l6 23 2 v6 1 [I J 10,I J 0]/\Z.ownsRow l4 169 4 v4 1 [I J 10,I J 0,I J 18,I J 30]/\Z.ownsRow l2 166 8 vr 1 fT.toList/\Z.ownsRow l2 163 3 v2 1 [.string ⟨#[98]⟩,vr,I J 69]) (⟨hf.1,hf.2,tr,tI⟩) (λ X X' ho hk=>⟨kE ar ar X X' ho hk.1,kE ar ar X X' ho hk.2.1,kE ar ar X X' ho hk.2.2.1,kE ar ar X X' ho hk.2.2.2⟩));clear hg));rw[rounds_succ];refine forget (λ X=>Lr W pb (O ⟨b,off,U⟩) c lb jf jV mb (λ Z=>Z.ownsRow l6 23 2 v6 1 [I J 10,I J 0]/\Z.ownsRow l4 169 4 v4 1 [I J 10,I J 0,I J 18,I J 30]/\Z.ownsRow l2 166 8 vr 1 fT.toList/\Z.ownsRow l2 163 3 v2 1 [.string ⟨#[98]⟩,vr,I J 69]) 37 #[.string ⟨#[108,111,119]⟩,I J 0,v2,G U 0 0,v4,G U 0 0,v6,I J 19] X) HR.o ?_;clear HR Lf lc tr tI hl2 hf;clear Y X;intro X hR;have HR:=aG hR;clear hR;go_upto_region 10 with(first|(go_at_call 110;refine(FC _ _ _ dX _ _ 147 _ _ _ _ _ HR.o.v.p rfl rfl rfl).mono ?_;rintro r X ⟨rfl,hg⟩;replace HR:=aG (HR.o.grow hg);clear hg)|(go_at_call 174;refine(yX _ _ _ dX _ _ 147 _ _ _ _ HR.o.v.p rfl).mono ?_;rintro r X ⟨rfl,hg⟩;replace HR:=aG (HR.o.grow hg);clear hg));obtain⟨b',off',e',hb,d0,d1,d2,d3,kq⟩:=HR.o.v.p.pick (i:=37) rfl;obtain⟨rfl,rfl⟩:b=b'/\off=off':=by cases e';exact⟨rfl,rfl⟩
 clear e';have c0:=HR.o.v.p.blk.cell 0;have c1:=HR.o.v.p.blk.cell 1;have f1:=HR.o.v.p.blk.free 1;have WY:=HR.o.v.p.lt;have lc:=HR.o.v.p.cap;have V5:b<X.heap.size:=ar;have C7:((37:Nat):Int)<(dX.length:Int):=ar;refine bJ X aV aV ?_
 iterate 12 (go_big_quiet_step (fail))
 go_big_quiet_want
 refine nW _ _ _ rfl 9 158 kR bn .nilFunc uO rfl (λ w9 qh=>by obtain⟨u9,rfl⟩:=qh;exact HR.o.m.below (aT _ _)) ⟨#[97,114,101,97]⟩ rfl ?_;rw[show fJ ⟨#[97,114,101,97]⟩ (yZ jf jV)=O (.func (.func 204) #[] #[M (O ⟨jf,0,U⟩),M (O ⟨jV,0,U⟩)]) from rfl,dD];go_simp;go_big_quiet_on
 repeat(go_big_quiet_step (fail))
 refine wpQuiet_nil (λ v=>?_);replace HR:=aG (HR.o.grow (aT X v));go_upto_region 14 with fail;have hN:=HR.o.next;refine forget (λ X=>Lr W pb (O ⟨b,off,U⟩) c lb jf jV mb (λ Z=>Z.ownsRow l6 23 2 v6 1 [I J 10,I J 0]/\Z.ownsRow l4 169 4 v4 1 [I J 10,I J 0,I J 18,I J 30]/\Z.ownsRow l2 166 8 vr 1 fT.toList/\Z.ownsRow l2 163 3 v2 1 [.string ⟨#[98]⟩,vr,I J 69]) 38 #[.string ⟨#[108,111,119]⟩,I J 0,v2,G U 0 0,v4,G U 0 0,v6,I J 19] X) hN ?_;clear hN HR c0 c1 f1 WY V5 d0 d1 d2 d3 hb kq C7;clear X v;intro X hN;have HR:=aG hN;have Lf:=HR.o.v.l.lt;clear hN;go_wp2_with (go_at_call 204;go_loud (refine(aau _ _ _ _ _ _ _ _ _ _ _ _ _ _ HR.o.v).mono ?_;rintro r Y ⟨⟨v,rfl⟩,v3,ru,hg⟩;obtain⟨l3,hl3⟩:∃x,X.heap.size=x:=⟨_,rfl⟩;rw[hl3] at Lf ru;have ao1:pb<l3/\lb<l3:=⟨by have :=HR.o.v.n1;omega,Lf⟩;replace HR:=HR.o.item hg;have hf:=HR.f;replace HR:=aG (HR.acu (F':=λ Z=>Z.ownsRow l6 23 2 v6 1 [I J 10,I J 0]/\Z.ownsRow l4 169 4 v4 1 [I J 10,I J 0,I J 18,I J 30]/\Z.ownsRow l2 166 8 vr 1 fT.toList/\Z.ownsRow l2 163 3 v2 1 [.string ⟨#[98]⟩,vr,I J 69]/\Z.ownsRow l3 171 7 v3 1 (qW 2).toList) (⟨hf.1,hf.2.1,hf.2.2.1,hf.2.2.2,ru⟩) (λ X X' ho hk=>⟨kE ar ar X X' ho hk.1,kE ar ar X X' ho hk.2.1,kE ar ar X X' ho hk.2.2.1,kE ar ar X X' ho hk.2.2.2.1,kE ar ar X X' ho hk.2.2.2.2⟩));clear hg));rw[rounds_succ];refine forget (λ X=>Lr W pb (O ⟨b,off,U⟩) c lb jf jV mb (λ Z=>Z.ownsRow l6 23 2 v6 1 [I J 10,I J 0]/\Z.ownsRow l4 169 4 v4 1 [I J 10,I J 0,I J 18,I J 30]/\Z.ownsRow l2 166 8 vr 1 fT.toList/\Z.ownsRow l2 163 3 v2 1 [.string ⟨#[98]⟩,vr,I J 69]/\Z.ownsRow l3 171 7 v3 1 (qW 2).toList) 46 #[.string ⟨#[108,111,119]⟩,I J 0,v2,v3,v4,G U 0 0,v6,I J 19] X) HR.o ?_;clear HR Lf lc ru hl3 hf;clear Y X;intro X hR;have HR:=aG hR;clear hR;go_upto_region 15 with(go_at_call 110;refine(GR _ _ _ dX _ _ 147 _ _ _ _ HR.o.v.p rfl rfl).mono ?_;rintro r X ⟨rfl,hg⟩;replace HR:=aG (HR.o.go hg);clear hg);obtain⟨w2,e2⟩:∃A c,v2=G A 1 c:=by obtain⟨A,c,h,-⟩:=fM HR.o.f.2.2.2.1;exact⟨A,c,h⟩
 obtain⟨c2,e2⟩:=e2;obtain⟨w3,c3,e3⟩:∃A c,v3=G A 1 c:=by obtain⟨A,c,h,-⟩:=fM HR.o.f.2.2.2.2;exact⟨A,c,h⟩
 obtain⟨w4,c4,e4⟩:∃A c,v4=G A 1 c:=by obtain⟨A,c,h,-⟩:=fM HR.o.f.2.1;exact⟨A,c,h⟩
 obtain⟨w6,c6,e6⟩:∃A c,v6=G A 1 c:=by obtain⟨A,c,h,-⟩:=fM HR.o.f.1;exact⟨A,c,h⟩
 subst e2 e3 e4 e6;have hB:=HR.o.v.l;obtain⟨cb,V5⟩:=hB.cl0;have h0:=HR.o.r;have c0:=h0.cell;have f0:=h0.free;have l0:=h0.lt;have hD:NL pb (O ⟨b,off,U⟩) dX c 47 147 W X:=⟨HR.o.v.p,HR.o.o⟩;have HD:=fH hD h0 HR.o.f;clear hD hB h0 HR;go_wp2_with fail;have hw:=iA (b:=W.heap.size) [.string ⟨#[108,111,119]⟩,I J 0,G w2 1 c2,G w3 1 c3,G w4 1 c4,G U 0 0,G w6 1 c6,I J 19] 0 X;have kk:∀(lo e n:Nat)(v:R)(xs:List R),W.heap.size<lo->X.ownsRow lo e n v 1 xs->(xS X W.heap.size 0 [.string ⟨#[108,111,119]⟩,I J 0,G w2 1 c2,G w3 1 c3,G w4 1 c4,G U 0 0,G w6 1 c6,I J 19]).ownsRow W.heap.size e n v 1 xs:=λ lo e n v xs h1 h=>jr (ee h hw λ g hg=>by have :=(jd h hg).1;omega) (gS h1);have hld:=(Bk.load (P:=prog) (jF HD.q2 ([.string ⟨#[108,111,119]⟩,I J 0,G w2 1 c2,G w3 1 c3,G w4 1 c4,G U 0 0,G w6 1 c6,I J 19]:List R).toArray rfl) underlying85 rfl aV);refine bodyPost_ret (gD (p:=⟨W.heap.size,0,U⟩) rfl rfl hld) rfl ⟨vr,G w2 1 c2,G w3 1 c3,G w4 1 c4,G w6 1 c6,rfl,?_⟩;exact⟨kk _ _ _ _ _ ar HD.q5,kk _ _ _ _ _ ar HD.q6,kk _ _ _ _ _ ar HD.t6,kk _ _ _ _ _ ar HD.q4,kk _ _ _ _ _ ar HD.q3,HD.q1.Jv (l:=[.string ⟨#[108,111,119]⟩,I J 0,G w2 1 c2,G w3 1 c3,G w4 1 c4,G U 0 0,G w6 1 c6,I J 19]) hA (ah _) lp⟩
end
section
open Go.RowKit
attribute [local go_sem] aQ aC bW kC kD
theorem LN{W:agb}{pb b:Nat}{T:List Tok}{c k:Nat}{e kd n a:Int}{s:BA0}(h:pK W pb b T c k e)(hk:T[k]?=O (kd,s,n,a)):∀X,aZ W X->Calls prog 150 #[M (O ⟨pb,0,U⟩),I J kd,G U 0 0] X λ r W'=>r=.returned (.bool true)/\aZ X W':=λ X hX=>xW X pb b T c k e kd n a s (h.grow hX) hk
theorem lM(W:agb)(pb b:Nat)(T:List Tok)(c k:Nat)(e kd n a:Int)(s:BA0)(h:pK W pb b T c k e)(hk:T[k]?=O (kd,s,n,a)):
 Calls prog 151 #[M (O ⟨pb,0,U⟩),I J kd,G U 0 0] W λ r W'=>r=.returned (.agg #[I J kd,.string s,I J n,I J a])/\wZ pb b T c (k+1) e W W':=
 Ju W pb b T c k e kd n a s _ h hk (LN h hk)
section
variable{P:Program}{w:agb}{ops:Array Oper}{rest:List Oper}{o:Oper}{a:Act}{Q:lC}{b:Nat}{l:List (BA0×R)}
theorem Ag(hw:Region.wanted o (yielded ops a.tmps)=true)(mm x:Operand)(t:TypeId)(hop:o.op=Op.lookup t mm x false)(kt e:TypeId)(ht:P.underlying t=O (.map kt e))(hk:P.underlying kt=O .string)(z:R)(hz:(zeroValue e).run P w=.ok z w)
 (hm:a.eval mm=.map (O b))(h:cS w b l)(k:BA0)(hx:a.eval x=.string k)(hK:wpList P ops Q rest (a.put o.dst ((fJ k l).getD z)) w):wpList P ops Q (o::rest) a w:=by
 unfold wpList;rw[if_pos hw];refine .inl ?_;have hrun:=h.look ht hk hz k;unfold Oper.wp;simp[execOp,hop,hm,hx,hrun,Result.andThen];exact hK
end
theorem Si(W:agb)(pb b:Nat)(T:List Tok)(c k:Nat)(e kd Zh n a:Int)(s s':BA0)(ob oo oc:Nat)(h:pK W pb b T c k e)(hk:T[k]?=O (kd,s,n,a))(hn:(kd==Zh)=false\/(kd=Zh/\(s.data.toList==s'.data.toList)=false))(ho:W.cell? ⟨ob,oo,U⟩=O (.string s')):
 Calls prog 150 #[M (O ⟨pb,0,U⟩),I J Zh,G (O ⟨ob,oo,U⟩) 1 (oc+1)] W λ q W'=>q=.returned (.bool false)/\aZ W W':=by
 rcases hn with hn|⟨rfl,hn⟩
 · exact BX W pb b T c k e kd Zh n a s _ h hk hn
 · exact uf W pb b T c k e kd n a s s' ob oo oc false h hk ho hn
theorem Sj{pb b:Nat}{T:List Tok}{c k:Nat}{e:Int}{W X:agb}(h:wZ pb b T c k e W X):Only (λ g=>O pb=O g) W X:=h.2.mono λ g hg=>by rw[hg]
abbrev Sk:Array R:=#[.string ⟨#[]⟩,I J 0,.string ⟨#[]⟩,I J 0,I J 0]
def opsL:List (BA0×R):=[(⟨#[61]⟩,I J 1),(⟨#[33,61]⟩,I J 2),(⟨#[60]⟩,I J 3),(⟨#[60,61]⟩,I J 4),(⟨#[62]⟩,I J 5),(⟨#[62,61]⟩,I J 6)]
def Zj(T:List Tok)(k:Nat)(N:Int)(nm:BA0)(k':Nat):Prop:=
 (∃s a,T[k]?=O (2,s,N,a)/\nm=⟨#[]⟩/\k'=k+1)\/
 (∃n a kd s' n' a',T[k]?=O (1,nm,n,a)/\T[k+1]?=O (kd,s',n',a')/\((kd==3)=false\/(kd=3/\(s'.data.toList==(⟨#[46]⟩:BA0).data.toList)=false))/\N=0/\k'=k+1)\/
 (∃s n a n' a' s4 n4 a4,T[k]?=O (1,s,n,a)/\T[k+1]?=O (3,⟨#[46]⟩,n',a')/\T[k+2]?=O (1,s4,n4,a4)/\nm=s++(⟨#[46]⟩++s4)/\N=0/\k'=k+3/\s.size<=1000/\s4.size<=1000)
theorem Sl(W:agb)(pb b:Nat)(T:List Tok)(c k k1 k2 k':Nat)(e n0 pn n1 a1 oi N:Int)(name op nm:BA0)(e1:k+1=k1)(e2:k1+1=k2)(h:pK W pb b T c k e)(h0:T[k]?=O (1,name,n0,pn))(h1:T[k1]?=O (3,op,n1,a1))(ho:fJ op opsL=O (I J oi))(hoi:(oi==0)=false)(hE:Zj T k2 N nm k'):
 Calls prog 193 #[M (O ⟨pb,0,U⟩)] W λ r W'=>r=.returned (.agg #[.string name,I J oi,.string nm,I J N,I J pn])/\wZ pb b T c k' e W W':=by
 have qf:= @run_makeMap prog;have lp:=h.lt;have lo:=h.lo;have kW:=lQ h h0 h1 ho hE;clear h h0 h1 ho hE;go_enter func193,ntmps193;go_upto_region 3 with(go_at_call 151;refine(lM _ pb b T c k e 1 n0 pn name (kW.q1.grow dE) kW.q2).mono ?_;rintro r Y ⟨rfl,hg⟩;rw[e1] at hg;have HG:=aG hg;clear hg);obtain⟨X3,Zk⟩:∃X3,(Y.alloc (D #[I J 1,.string name,I J n0,I J pn] 234)).alloc (D #[.string name,I J 0,.string ⟨#[]⟩,I J 0,I J pn] 109)=X3:=⟨_,rfl⟩;obtain⟨rb,kS⟩:∃x,Y.heap.size+1=x:=⟨_,rfl⟩;have hz:W.heap.size+1<=Y.heap.size:=by have :=HG.o.sizes;simpa using this
 have LL:W.heap.size<rb:=ar
 have hL:xu W pb b T c e rb 109 (λ X=>Bk X W.heap.size Sk 109) k1 #[.string name,I J 0,.string ⟨#[]⟩,I J 0,I J pn] X3:=by
  subst Zk;have hb:aZ Y ((Y.alloc (D #[I J 1,.string name,I J n0,I J pn] 234)).alloc (D #[.string name,I J 0,.string ⟨#[]⟩,I J 0,I J pn] 109)):=dE;refine⟨HG.q1.grow hb,au _ _ _ _ (by simpa using kS),?_,?_,ar,ar,λ X X' ho hk=>hk.only ho ar⟩
  · exact((Bk.new W _ _).only HG.t1 ar).below hb
  · exact((aw dE).trans (HG.t1.mono λ g hg=>.inl hg)).trans (aw hb)
 have hz3:X3.heap.size=rb+1:=by rw[<-Zk,<-kS];simp
 rw[Zk,kS];have H0:Hid (cS (X3.alloc (.map #[] 0)) X3.heap.size []/\Only (λ g=>g=X3.heap.size) X3 (X3.alloc (.map #[] 0))):=aG ⟨cS.new X3,(Only.refl _ _).alloc _⟩;obtain⟨mb,ug⟩:∃x,X3.heap.size=x:=⟨_,rfl⟩;rw[ug] at H0;have aaw:∀t,(Instr.makeMap t U).run prog X3=.ok (.map (O mb)) (X3.alloc (.map #[] 0)):=λ t=>by rw[qf,ug]
 have HL:=fH hL Zk hz3;clear hL Zk hz3 HG qf
 go_upto_region 4 with(first
  |(refine eH rfl _ _ _ _ rfl 9 3 bC bn rfl H0.q1 ⟨#[61]⟩ rfl rfl (I J 1) rfl ?_;intro wC hC oC;replace H0:=dt hC (H0.t1.trans oC);clear hC oC)
  |(refine eH rfl _ _ _ _ rfl 9 3 bC bn rfl H0.q1 ⟨#[33,61]⟩ rfl rfl (I J 2) rfl ?_;intro wC hC oC;replace H0:=dt hC (H0.t1.trans oC);clear hC oC)
  |(refine eH rfl _ _ _ _ rfl 9 3 bC bn rfl H0.q1 ⟨#[60]⟩ rfl rfl (I J 3) rfl ?_;intro wC hC oC;replace H0:=dt hC (H0.t1.trans oC);clear hC oC)
  |(refine eH rfl _ _ _ _ rfl 9 3 bC bn rfl H0.q1 ⟨#[60,61]⟩ rfl rfl (I J 4) rfl ?_;intro wC hC oC;replace H0:=dt hC (H0.t1.trans oC);clear hC oC)
  |(refine eH rfl _ _ _ _ rfl 9 3 bC bn rfl H0.q1 ⟨#[62]⟩ rfl rfl (I J 5) rfl ?_;intro wC hC oC;replace H0:=dt hC (H0.t1.trans oC);clear hC oC)
  |(refine eH rfl _ _ _ _ rfl 9 3 bC bn rfl H0.q1 ⟨#[62,61]⟩ rfl rfl (I J 6) rfl ?_;intro wC hC oC;replace H0:=dt hC (H0.t1.trans oC);clear hC oC))
 have hL:xu W pb b T c e rb 109 (λ X=>Bk X W.heap.size Sk 109/\cS X mb opsL) k1 #[.string name,I J 0,.string ⟨#[]⟩,I J 0,I J pn] wC:=by have hb:aZ X3 wC:=H0.t1.aK (λ g e=>ar) (ah _);have hL:=HL.q1.grow hb;have hz3:=HL.t2;exact hL.acu ⟨hL.f,H0.q1⟩ λ X X' ho hk=>⟨hk.1.only ho ar,hk.2.only ho ar⟩
 clear H0 HL aaw;have hsm:=hL.f.2;refine forget (λ X=>xu W pb b T c e rb 109 (λ X=>Bk X W.heap.size Sk 109/\cS X mb opsL) k1 #[.string name,I J 0,.string ⟨#[]⟩,I J 0,I J pn] X) hL ?_;clear hL hsm ug;intro X hL;have HS:=aG hL;clear hL;have h1:=kW.q3;have hop:=kW.q4
 go_upto_region 6 with(first
  |(go_at_call 150;(refine(xW _ pb b T c k1 e 3 n1 a1 op HS.o.p h1).mono ?_;rintro r X ⟨rfl,hb⟩;replace HS:=aG (HS.o.grow hb);obtain⟨hB,d0,d1,-,-,kq⟩:=HS.o.p.pick h1;have c0:=hB.cell 0;have lb:=HS.o.p.lt;have LO:=HS.o.p.lo;have lc:=HS.o.p.cap;have lf:=HS.o.p.few;have lbb:b<X.heap.size:=ar;have hl0:(0:Int)<((T.length - k1:Nat):Int):=ar;clear hB hb))
  |(refine Ag (o:=⟨O 27,_,_,_,_,_⟩) (by rfl) _ _ _ rfl 9 3 bC bn (I J 0) aV rfl HS.o.f.2 op rfl ?_;rw[hop]))
 clear d0 d1 kq c0 lb LO lc lf lbb hl0
 go_upto_region 7 with(first
  |(go_at_call 151;refine(lM _ pb b T c k1 e 3 n1 a1 op HS.o.p h1).mono ?_;rintro r X ⟨rfl,hg⟩;rw[e2] at hg;replace HS:=aG (HS.o.go hg);have lb:=HS.o.v.lt;have fb:=HS.o.v.free;have cb:=HS.o.v.cell;clear hg)
  |(refine LC rfl _ _ _ rfl 9 3 bC bn (I J 0) aV rfl HS.o.f.2 op rfl ?_;rw[hop]))
 replace HS:=aG (HS.o.aS 1 (I J oi));clear lb fb cb;have hE:=kW.t4;clear kW h1 hop;obtain⟨X7,hX7⟩:∃X7,X.setCell ⟨rb,1,U⟩ (I J oi)=X7:=⟨_,rfl⟩;rw[hX7] at HS⊢;clear hX7;rcases hE with⟨s,a,hk,rfl,rfl⟩|⟨n,a,kd,s',n',a',hk,hk3,nJ,rfl,rfl⟩|⟨s,n,a,n',a',s4,n4,a4,hk,hk3,hk4,Je,rfl,rfl,hs1,hs2⟩
 · go_upto_region 9 with(first
    |(go_at_call 150;refine(xW _ pb b T c k2 e 2 N a s HS.o.p hk).mono ?_;rintro r X ⟨rfl,hb⟩;replace HS:=aG (HS.o.grow hb);clear hb)
    |(go_at_call 151;refine(lM _ pb b T c k2 e 2 N a s HS.o.p hk).mono ?_;rintro r X ⟨rfl,hg⟩;replace HS:=aG (HS.o.go hg);have lb:=HS.o.v.lt;have fb:=HS.o.v.free;have cb:=HS.o.v.cell;clear hg))
   replace HS:=aG (HS.o.aS 3 (I J N));clear lb fb cb;have hB:=HS.o.v;obtain⟨cb,lb⟩:=hB.cl0;have h0:=HS.o.f.1;have c0:=h0.cell;have f0:=h0.free;have l0:=h0.lt;have hD:=HS.o.done (gS LL);have HD:=fH hD hB h0;clear hD hB h0 HS;go_wp2_with fail;refine bodyPost_ret (gD (p:=⟨W.heap.size,0,U⟩) rfl rfl (Bk.load (jF HD.t2 #[.string name,I J oi,.string ⟨#[]⟩,I J N,I J pn] rfl) underlying109 rfl aV)) rfl ⟨rfl,HD.q1.Jv (l:=(#[.string name,I J oi,.string ⟨#[]⟩,I J N,I J pn]:Array R).toList) lo (ah _) lp⟩
 · go_upto_region 11 with(first
    |(go_at_call 150;refine(BX _ pb b T c k2 e 1 2 n a nm _ HS.o.p hk rfl).mono ?_;rintro r X ⟨rfl,hb⟩;replace HS:=aG (HS.o.grow hb);clear hb)
    |(go_at_call 151;refine(lM _ pb b T c k2 e 1 n a nm HS.o.p hk).mono ?_;rintro r X ⟨rfl,hg⟩;replace HS:=aG (HS.o.go hg);have lb:=HS.o.v.lt;have fb:=HS.o.v.free;have cb:=HS.o.v.cell;clear hg))
   replace HS:=aG (HS.o.aS 2 (.string nm));clear lb fb cb;go_upto_region 14 with(go_at_call 150;refine(Si _ pb b T c (k2+1) e kd 3 n' a' s' ⟨#[46]⟩ _ _ 0 (HS.o.p.grow dE) hk3 nJ (by simp[go_sem])).mono ?_;rintro r X ⟨rfl,hb⟩;replace HS:=aG (HS.o.grow (aq dE hb));clear hb);have hB:=HS.o.v;obtain⟨cb,lb⟩:=hB.cl0;have h0:=HS.o.f.1;have c0:=h0.cell;have f0:=h0.free;have l0:=h0.lt;have hD:=HS.o.done (gS LL);have HD:=fH hD hB h0;clear hD hB h0 HS;go_wp2_with fail;refine bodyPost_ret (gD (p:=⟨W.heap.size,0,U⟩) rfl rfl (Bk.load (jF HD.t2 #[.string name,I J oi,.string nm,I J 0,I J pn] rfl) underlying109 rfl aV)) rfl ⟨rfl,HD.q1.Jv (l:=(#[.string name,I J oi,.string nm,I J 0,I J pn]:Array R).toList) lo (ah _) lp⟩
 · go_upto_region 11 with(first
    |(go_at_call 150;refine(BX _ pb b T c k2 e 1 2 n a s _ HS.o.p hk rfl).mono ?_;rintro r X ⟨rfl,hb⟩;replace HS:=aG (HS.o.grow hb);clear hb)
    |(go_at_call 151;refine(lM _ pb b T c k2 e 1 n a s HS.o.p hk).mono ?_;rintro r X ⟨rfl,hg⟩;replace HS:=aG (HS.o.go hg);have lb:=HS.o.v.lt;have fb:=HS.o.v.free;have cb:=HS.o.v.cell;clear hg))
   replace HS:=aG (HS.o.aS 2 (.string s));clear lb fb cb;go_upto_region 12 with(go_at_call 150;refine(uf _ pb b T c (k2+1) e 3 n' a' ⟨#[46]⟩ ⟨#[46]⟩ _ _ 0 true (HS.o.p.grow dE) hk3 (by simp[go_sem]) rfl).mono ?_;rintro r X ⟨rfl,hb⟩;replace HS:=aG (HS.o.grow (aq dE hb));clear hb);go_upto_region 13 with(go_at_call 151;refine(lM _ pb b T c (k2+1) e 3 n' a' ⟨#[46]⟩ HS.o.p hk3).mono ?_;rintro r X ⟨rfl,hg⟩;replace HS:=aG (HS.o.go hg);have lb:=HS.o.v.lt;have fb:=HS.o.v.free;have cb:=HS.o.v.cell;clear hg);have ad3:∀w,(Op.stringOp .add ⟨#[46]⟩ s4).run prog w=.ok (.string (⟨#[46]⟩++s4)) w:=λ w=>run_string_add_sum w _ _ (by have :(⟨#[46]⟩:BA0).size=1:=rfl;omega);have ad4:∀w,(Op.stringOp .add s (⟨#[46]⟩++s4)).run prog w=.ok (.string nm) w:=λ w=>Je▸run_string_add_sum w _ _ (by have :(⟨#[46]⟩:BA0).size=1:=rfl;rw[ByteArray.size_append];omega);clear lb fb cb;have lr:=HS.o.v.lt;have cr:=HS.o.v.cell;have hne:=HS.o.ne;have xb:∀u i,(jP (O pb) X u).cell? ⟨rb,i,U⟩=(#[.string name,I J oi,.string s,I J 0,I J pn]:Array R)[i]?:=λ u i=>(fE rb i lr (λ e=>hne (aO e).symm)).trans (cr i);clear Je;have mj:=aG HS.o.drew;have HO:Hid (Only (λ g=>O pb=O g) X X.drew):=aG ((Only.refl _ _).drew);refine ed (S:=λ w'=>∃u,w'=jP (O pb) X u) [([0,1,2],[3]),([4,5,6,7],[])] 8 aV aV (dT HO.o) ?_;(refine bT (λ K9 h9=>?_);simp only[aH,aU,aW,aa,ae];(repeat(go_big_quiet_step (fail)));refine wpQuiet_nil (h9 _ ?_);clear h9 K9)
   (refine cM (λ K9 h9=>?_);simp only[aW,aa,ae])
   go_wp2_with (go_at_call 151;refine(lM _ pb b T c (k2+1+1) e 1 n4 a4 s4 mj.o.p hk4).mono ?_;rintro r X1 ⟨rfl,hg⟩;replace HO:=aG (HO.o.trans (Sj hg));replace mj:=aG (mj.o.go hg);clear hg);refine h9 _ _ (dT HO.o) ?_;clear h9 K9;refine bU ?_;(refine bT (λ K9 h9=>?_);simp only[aH,aU,aW,aa,ae];(repeat(go_big_quiet_step (fail)));refine wpQuiet_nil (h9 _ ?_);clear h9 K9)
   refine bU (dF ?_);simp only[aW,aa,ae];have lb:=mj.o.v.lt;have fb:=mj.o.v.free;have cb:=mj.o.v.cell;clear xb cr lr;go_upto_region 14 with fail;replace HS:=aG (mj.o.aS 2 (.string nm));clear mj HO lb fb cb;have hB:=HS.o.v;obtain⟨cb,lb⟩:=hB.cl0;have h0:=HS.o.f.1;have c0:=h0.cell;have f0:=h0.free;have l0:=h0.lt;have hD:=HS.o.done (gS LL);have HD:=fH hD hB h0;clear hD hB h0 HS;go_wp2_with fail;refine bodyPost_ret (gD (p:=⟨W.heap.size,0,U⟩) rfl rfl (Bk.load (jF HD.t2 #[.string name,I J oi,.string nm,I J 0,I J pn] rfl) underlying109 rfl aV)) rfl ⟨rfl,HD.q1.Jv (l:=(#[.string name,I J oi,.string nm,I J 0,I J pn]:Array R).toList) lo (ah _) lp⟩
def za(t:Ts):List R:=[.string t.1,I J t.2.1,.string t.2.2.1,I J t.2.2.2.1,I J t.2.2.2.2]
def nX(lo:Nat)(X:agb)(v:R)(ts:List Ts):Prop:=X.ownsRow lo 109 5 v ts.length (ts.flatMap za)
theorem nX.only{lo:Nat}{X X':agb}{v:R}{ts:List Ts}{S:Nat->Prop}(h:nX lo X v ts)(ho:Only S X X')(hS:∀g,S g->g<lo):nX lo X' v ts:=
 ee h ho λ g hg hs=>by have :=(jd h hg).1;have :=hS g hs;omega
theorem nX.mono{lo LO:Nat}{X:agb}{v:R}{ts:List Ts}(h:nX lo X v ts)(hl:LO<=lo):nX LO X v ts:=jr h hl
theorem nX.one{lo g:Nat}{X:agb}{t:Ts}(h:Bk X g (za t).toArray 109)(hl:lo<=g):nX lo X (G (O ⟨g,0,U⟩) 1 1) [t]:=
 ⟨by simp[za],.inr ⟨g,1,(za t).toArray,rfl,hl,h,bY,cj,by simp[za],by simp[za]⟩⟩
def qX(T:List Tok)(k:Nat)(t:Ts)(k':Nat):Prop:=
 ∃n0 n1 a1 op,T[k]?=O (1,t.1,n0,t.2.2.2.2)/\T[k+1]?=O (3,op,n1,a1)/\fJ op opsL=O (I J t.2.1)/\(t.2.1==0)=false/\Zj T (k+2) t.2.2.2.1 t.2.2.1 k'
theorem GW(W:agb)(pb b:Nat)(T:List Tok)(c k k':Nat)(e:Int)(t:Ts)(h:pK W pb b T c k e)(ht:qX T k t k'):
 Calls prog 193 #[M (O ⟨pb,0,U⟩)] W λ r W'=>r=.returned (.agg (za t).toArray)/\wZ pb b T c k' e W W':=by
 obtain⟨n0,n1,a1,op,h0,h1,ho,hoi,hE⟩:=ht;exact Sl W pb b T c k (k+1) (k+2) k' e n0 _ n1 a1 _ _ _ op _ rfl rfl h h0 h1 ho hoi hE
def tK(T:List Tok)(k:Nat)(s':BA0):Prop:=∃kd s n a,T[k]?=O (kd,s,n,a)/\((kd==1)=false\/(kd=1/\(s.data.toList==s'.data.toList)=false))
theorem nY(W:agb)(pb b:Nat)(T:List Tok)(c k:Nat)(e:Int)(s':BA0)(h:pK W pb b T c k e)(hn:tK T k s'):
 Calls prog 152 #[M (O ⟨pb,0,U⟩),.string s'] W λ r W'=>r=.returned (.bool false)/\aZ W W':=by
 obtain⟨kd,s,n,a,hk,hh⟩:=hn;exact WT W pb b T c k e kd n a s s' h hk hh
theorem Sp(W:agb)(pb b:Nat)(T:List Tok)(c k k1:Nat)(e:Int)(s':BA0)(t:Ts)(h:pK W pb b T c k e)(h1:qX T k t k1)(hn:tK T k1 s'):
 Calls prog 192 #[M (O ⟨pb,0,U⟩),.func (.func 193) #[M (O ⟨pb,0,U⟩)] #[],.string s'] W λ r W'=>(∃v,r=.returned v/\nX W.heap.size W' v [t])/\wZ pb b T c k1 e W W':=by
 have lp:=h.lt;have kW:=fH h h1 hn;clear h h1 hn;go_enter func192,ntmps192
 go_wp2_with (first
  |(go_at_call 193;refine(GW W pb b T c k k1 e t kW.q1 kW.q2).mono ?_;rintro r Y ⟨rfl,hg⟩;have HG:=aG hg;clear hg)
  |(refine iz rfl 86 109 _ rfl (za t).toArray rfl ED aV (by simp[za]) (by simp[za]) aV ?_))
 refine wp_loop_rounds 1 ?_;rw[rounds_succ];go_wp2_with (go_at_call 152;refine(nY _ pb b T c k1 e s' (HG.q1.grow dE) kW.t2).mono ?_;rintro r Z ⟨rfl,hb⟩;have HB:=aG hb;clear hb);go_ret;have hW:W.heap.size<=Y.heap.size:=HG.o.sizes;have hb:aZ Y Z:=aq dE HB.o;have hk:Bk Z Y.heap.size (za t).toArray 109:=(Bk.new Y _ _).below HB.o;exact⟨⟨_,rfl,nX.one hk hW⟩,HG.q1.grow hb,HG.t1.trans (aw hb)⟩
theorem Sq(W:agb)(pb b:Nat)(T:List Tok)(c k k1 k2:Nat)(e n a:Int)(s':BA0)(t t2:Ts)(h:pK W pb b T c k e)(h1:qX T k t k1)(hy:T[k1]?=O (1,s',n,a))(h2:qX T (k1+1) t2 k2)(hn:tK T k2 s'):
 Calls prog 192 #[M (O ⟨pb,0,U⟩),.func (.func 193) #[M (O ⟨pb,0,U⟩)] #[],.string s'] W λ r W'=>(∃v,r=.returned v/\nX W.heap.size W' v [t,t2])/\wZ pb b T c k2 e W W':=by
 have lp:=h.lt;have kW:=lQ h h1 hy h2 hn;clear h h1 hy h2 hn;go_enter func192,ntmps192
 go_wp2_with (first
  |(go_at_call 193;refine(GW W pb b T c k k1 e t kW.q1 kW.q2).mono ?_;rintro r Y ⟨rfl,hg⟩;have HG:=aG hg;clear hg)
  |(refine iz rfl 86 109 _ rfl (za t).toArray rfl ED aV (by simp[za]) (by simp[za]) aV ?_))
 refine wp_loop_rounds 2 ?_;rw[rounds_succ];go_upto_region 3 with(go_at_call 152;refine(C5 _ pb b T c k1 e n a s' (HG.q1.grow dE) kW.q3).mono ?_;rintro r Z ⟨rfl,hb⟩;have HB:=aG hb;clear hb);obtain⟨g,hg⟩:∃x,Y.heap.size=x:=⟨_,rfl⟩;have hW:W.heap.size<=g:=by have :=HG.o.sizes;omega
 have hO:wZ pb b T c (k1+1) e W Z:=⟨HB.q1,(HG.t1.trans (aw (w:=Y) (w':=Y.alloc (D (za t).toArray 109)) dE)).trans HB.t1⟩;have hk:Bk Z g (za t).toArray 109:=(au _ _ _ _ hg).only HB.t1 ar;rw[hg];have HX:=dt hO hk;clear hO hk HG HB hg;obtain⟨ir,zr,i1,i2,i3,i4,i5⟩:=kU (P:=prog) (e:=109) (size:=5) (bytes:=56) (c:=5) aV;have aad:=lQ i1 i2 i3 i4 i5;clear i1 i2 i3 i4 i5
 go_wp2_with (first
  |(go_at_call 193;refine(GW _ pb b T c (k1+1) k2 e t2 HX.q1.1 kW.q4).mono ?_;rintro r Y2 ⟨rfl,hg⟩;have HG:=aG hg;clear hg)
  |(refine iz rfl 86 109 _ rfl (za t2).toArray rfl ED aV (by simp[za]) (by simp[za]) aV ?_)
  |(refine iG rfl _ _ _ rfl W.heap.size 109 ir zr 5 56 ED aad.q1 aad.q2 aad.q3 aad.q4 aad.t4 cj 1 ([t].flatMap za) rfl (nX.one ((HX.t1.only HG.t1 ar).alloc _) hW) (O ⟨Y2.heap.size,0,U⟩) 1 1 (za t2) rfl (by rfl) (by have :=gL (Bk.new Y2 (za t2).toArray 109) 1;simpa using this) (by intro u hu;simp[za] at hu;rcases hu with rfl|rfl|rfl|rfl|rfl<;>rfl) cj cj (by have :=HX.q1.sizes;have :=HG.o.sizes;simp;omega) 2 ([t,t2].flatMap za) rfl bY ?_;intro A6 c6 w6 hown mN hgr hA6;have HA:=dt hown mN;clear hown mN hgr hA6))
 have hO:wZ pb b T c k2 e W w6:=by have h1:=(HX.q1.2.trans HG.t1).alloc (D (za t2).toArray 109);exact⟨(HG.q1.grow (aj Y2 (D (za t2).toArray 109))).below HA.t1 lp h1.size,h1.below HA.t1⟩
 have HO:=dt hO HA.q1;clear hO HA HG HX;rw[rounds_succ];go_wp2_with (go_at_call 152;refine(nY _ pb b T c k2 e s' HO.q1.1 kW.t4).mono ?_;rintro r Z2 ⟨rfl,hb⟩;have HB:=aG hb;clear hb);go_ret;exact⟨⟨_,rfl,ee HO.t1 (aw (S:=λ _=>False) HB.o) (λ _ _ h=>h)⟩,HO.q1.1.grow HB.o,HO.q1.2.trans (aw HB.o)⟩
theorem Pm(W:agb)(pb b:Nat)(T:List Tok)(c k k1:Nat)(e:Int)(t:Ts)(h:pK W pb b T c k e)(h1:qX T k t k1)(hn:tK T k1 ⟨#[97,110,100]⟩):
 Calls prog 154 #[M (O ⟨pb,0,U⟩)] W λ r W'=>(∃v,r=.returned v/\nX W.heap.size W' v [t])/\wZ pb b T c k1 e W W':=by
 have HC:=aG (Sp W pb b T c k k1 e _ t h h1 hn);clear h h1 hn;go_enter func154,ntmps154;go_wp2_with (go_at_call 192;refine HC.o.mono ?_;rintro r Y ⟨⟨v,rfl,hv⟩,hg⟩;have HG:=dt hv hg;clear hv hg);go_ret;exact⟨⟨_,rfl,HG.q1⟩,HG.t1⟩
theorem Pn(W:agb)(pb b:Nat)(T:List Tok)(c k k1 k2:Nat)(e n a:Int)(t t2:Ts)(h:pK W pb b T c k e)(h1:qX T k t k1)(hy:T[k1]?=O (1,⟨#[97,110,100]⟩,n,a))(h2:qX T (k1+1) t2 k2)(hn:tK T k2 ⟨#[97,110,100]⟩):
 Calls prog 154 #[M (O ⟨pb,0,U⟩)] W λ r W'=>(∃v,r=.returned v/\nX W.heap.size W' v [t,t2])/\wZ pb b T c k2 e W W':=by
 have HC:=aG (Sq W pb b T c k k1 k2 e n a _ t t2 h h1 hy h2 hn);clear h h1 hy h2 hn;go_enter func154,ntmps154;go_wp2_with (go_at_call 192;refine HC.o.mono ?_;rintro r Y ⟨⟨v,rfl,hv⟩,hg⟩;have HG:=dt hv hg;clear hv hg);go_ret;exact⟨⟨_,rfl,HG.q1⟩,HG.t1⟩
abbrev aax:BA0:=⟨#[97,110,100]⟩
abbrev orB:BA0:=⟨#[111,114]⟩
def sI(T:List Tok)(k:Nat)(ts:List Ts)(k':Nat):Prop:=
 (∃t,ts=[t]/\qX T k t k'/\tK T k' aax)\/(∃t t2 k1 n a,ts=[t,t2]/\qX T k t k1/\T[k1]?=O (1,aax,n,a)/\qX T (k1+1) t2 k'/\tK T k' aax)
theorem ze(W:agb)(pb b:Nat)(T:List Tok)(c k k':Nat)(e:Int)(ts:List Ts)(h:pK W pb b T c k e)(ht:sI T k ts k'):
 Calls prog 154 #[M (O ⟨pb,0,U⟩)] W λ r W'=>(∃v,r=.returned v/\nX W.heap.size W' v ts)/\wZ pb b T c k' e W W':=by
 rcases ht with⟨t,rfl,h1,h2⟩|⟨t,t2,k1,n,a,rfl,h1,h2,h3,h4⟩
 · exact Pm W pb b T c k k' e t h h1 h2
 · exact Pn W pb b T c k k1 k' e n a t t2 h h1 h2 h3 h4
def ve(lo:Nat)(X:agb)(v:R)(od:List (List Ts)):Prop:=
 ∃vs,vs.length=od.length/\X.ownsRow lo 86 1 v od.length vs/\∀(i:Nat)(u:R)(ws:List Ts),vs[i]?=O u->od[i]?=O ws->nX lo X u ws
theorem ve.only{lo:Nat}{X X':agb}{v:R}{od:List (List Ts)}{S:Nat->Prop}(h:ve lo X v od)(ho:Only S X X')(hS:∀g,S g->g<lo):ve lo X' v od:=by obtain⟨vs,h1,h2,h3⟩:=h;exact⟨vs,h1,ee h2 ho (λ g hg hs=>by have :=(jd h2 hg).1;have :=hS g hs;omega),λ i u ws a b=>(h3 i u ws a b).only ho hS⟩
theorem ve.mono{lo LO:Nat}{X:agb}{v:R}{od:List (List Ts)}(h:ve lo X v od)(hl:LO<=lo):ve LO X v od:=by obtain⟨vs,h1,h2,h3⟩:=h;exact⟨vs,h1,jr h2 hl,λ i u ws a b=>(h3 i u ws a b).mono hl⟩
theorem Jy{lo g:Nat}{X:agb}{v:R}(h:Bk X g #[v] 86)(hl:lo<=g):X.ownsRow lo 86 1 (G (O ⟨g,0,U⟩) 1 1) 1 [v]:=
 ⟨rfl,.inr ⟨g,1,#[v],rfl,hl,h,bY,cj,bY,bY⟩⟩
theorem wm{w:agb}{base:Nat}{e:TypeId}{size:Nat}{v:R}{n:Nat}{xs:List R}(h:w.ownsRow base e size v n xs){g:Nat}(hg:v.ownBlock=O g):∃C,Bk w g C e:=by
 obtain⟨_,⟨rfl,_⟩|⟨g',cap,cur,rfl,_,h2,_⟩⟩:=h
 · simp[Value.ownBlock] at hg
 · simp only[Value.ownBlock,cQ] at hg
   subst hg;exact⟨cur,h2⟩
theorem nX.apart{lo g:Nat}{X X':agb}{v:R}{ts:List Ts}{C:Array R}(h:nX lo X v ts)(hk:Bk X g C 86)(ho:Only (λ x=>x=g) X X'):nX lo X' v ts:=
 ee h ho λ g' II e=>by obtain⟨C',Jz⟩:=wm h II;subst e;have q:O (Obj.cells C' 109 (0,0))=O (Obj.cells C 86 (0,0)):=(show X.heap[g']?=_ from Jz).symm.trans hk;cases q
theorem nX.form{lo:Nat}{X:agb}{v:R}{ts:List Ts}(h:nX lo X v ts):∃A c,v=G A ts.length c:=by obtain⟨A,c,e,_⟩:=fM h;exact⟨A,c,e⟩
theorem Sr(W:agb)(pb b:Nat)(T:List Tok)(c k k1:Nat)(e:Int)(s':BA0)(t:List Ts)(h:pK W pb b T c k e)(h1:sI T k t k1)(hn:tK T k1 s'):
 Calls prog 153 #[M (O ⟨pb,0,U⟩),.func (.func 154) #[M (O ⟨pb,0,U⟩)] #[],.string s'] W λ r W'=>(∃v,r=.returned v/\ve W.heap.size W' v [t])/\wZ pb b T c k1 e W W':=by
 have lp:=h.lt;have kW:=fH h h1 hn;clear h h1 hn;go_enter func153,ntmps153
 go_wp2_with (first
  |(go_at_call 154;refine(ze W pb b T c k k1 e t kW.q1 kW.q2).mono ?_;rintro r Y ⟨⟨v,rfl,hv⟩,hg⟩;have HG:=dt hg hv;obtain⟨A1,c1,rfl⟩:=hv.form;clear hg hv)
  |(refine xM rfl 50 86 1 1 _ rfl [G A1 t.length c1] EE aV rfl cj cj cj rfl (by intro v hv;simp at hv;subst hv;rfl) aV ?_))
 refine wp_loop_rounds 1 ?_;rw[rounds_succ];go_wp2_with (go_at_call 152;refine(nY _ pb b T c k1 e s' (HG.q1.1.grow dE) kW.t2).mono ?_;rintro r Z ⟨rfl,hb⟩;have HB:=aG hb;clear hb);go_ret;have hW:W.heap.size<=Y.heap.size:=HG.q1.sizes;have hb:aZ Y Z:=aq dE HB.o;have hk:Bk Z Y.heap.size #[G A1 t.length c1] 86:=(Bk.new Y _ _).below HB.o;refine⟨⟨_,rfl,[G A1 t.length c1],rfl,Jy hk hW,λ i u ws hu hw=>?_⟩,HG.q1.1.grow hb,HG.q1.2.trans (aw hb)⟩;cases i with
 |zero=>
  simp only[jH,cQ] at hu hw;subst hu hw;exact HG.t1.only (aw (S:=λ _=>False) hb) λ _ h=>h.elim
 |succ i=>simp at hu
theorem Ss(W:agb)(pb b:Nat)(T:List Tok)(c k k1 k2:Nat)(e n a:Int)(s':BA0)(t t2:List Ts)(h:pK W pb b T c k e)(h1:sI T k t k1)(hy:T[k1]?=O (1,s',n,a))(h2:sI T (k1+1) t2 k2)(hn:tK T k2 s'):
 Calls prog 153 #[M (O ⟨pb,0,U⟩),.func (.func 154) #[M (O ⟨pb,0,U⟩)] #[],.string s'] W λ r W'=>(∃v,r=.returned v/\ve W.heap.size W' v [t,t2])/\wZ pb b T c k2 e W W':=by
 have lp:=h.lt;have kW:=lQ h h1 hy h2 hn;clear h h1 hy h2 hn;go_enter func153,ntmps153
 go_wp2_with (first
  |(go_at_call 154;refine(ze W pb b T c k k1 e t kW.q1 kW.q2).mono ?_;rintro r Y ⟨⟨v,rfl,hv⟩,hg⟩;have HG:=dt hg hv;obtain⟨A1,c1,rfl⟩:=hv.form;clear hg hv)
  |(refine xM rfl 50 86 1 1 _ rfl [G A1 t.length c1] EE aV rfl cj cj cj rfl (by intro v hv;simp at hv;subst hv;rfl) aV ?_))
 refine wp_loop_rounds 2 ?_;rw[rounds_succ];go_upto_region 3 with(go_at_call 152;refine(C5 _ pb b T c k1 e n a s' (HG.q1.1.grow dE) kW.q3).mono ?_;rintro r Z ⟨rfl,hb⟩;have HB:=aG hb;clear hb);obtain⟨g,hg⟩:∃x,Y.heap.size=x:=⟨_,rfl⟩;have hW:W.heap.size<=g:=by have :=HG.q1.sizes;omega
 have hY:aZ Y (Y.alloc (D #[G A1 t.length c1] 86)):=dE;have hO:wZ pb b T c (k1+1) e W Z:=⟨HB.q1,(HG.q1.2.trans (aw hY)).trans HB.t1⟩;have hk:Bk Z g #[G A1 t.length c1] 86:=(au _ _ _ _ hg).only HB.t1 ar;have EI:nX W.heap.size Z (G A1 t.length c1) t:=(HG.t1.only (aw (S:=λ _=>False) hY) λ _ h=>h.elim).only HB.t1 (λ g h=>ar);rw[hg];have HX:=fH hO hk EI;clear hO hk HG HB hg hY EI;obtain⟨ir,zr,i1,i2,i3,i4,i5⟩:=kU (P:=prog) (e:=86) (size:=1) (bytes:=24) (c:=1) aV;have aad:=lQ i1 i2 i3 i4 i5;clear i1 i2 i3 i4 i5
 go_wp2_with (first
  |(go_at_call 154;refine(ze _ pb b T c (k1+1) k2 e t2 HX.q1.1 kW.q4).mono ?_;rintro r Y2 ⟨⟨v,rfl,hv⟩,hg⟩;have HG:=dt hg hv;obtain⟨A2,c2,rfl⟩:=hv.form;clear hg hv)
  |(refine xM rfl 50 86 1 1 _ rfl [G A2 t2.length c2] EE aV rfl cj cj cj rfl (by intro v hv;simp at hv;subst hv;rfl) aV ?_)
  |(refine iG rfl _ _ _ rfl W.heap.size 86 ir zr 1 24 EE aad.q1 aad.q2 aad.q3 aad.q4 aad.t4 cj 1 [G A1 t.length c1] rfl (Jy ((HX.q2.only HG.q1.2 ar).alloc _) hW) (O ⟨Y2.heap.size,0,U⟩) 1 1 [G A2 t2.length c2] rfl (by rfl) (by have :=gL (Bk.new Y2 #[G A2 t2.length c2] 86) 1;simpa using this) (by intro u hu;simp at hu;subst hu;rfl) cj cj (by have :=HX.q1.sizes;have :=HG.q1.sizes;simp;omega) 2 [G A1 t.length c1,G A2 t2.length c2] rfl bY ?_;intro A6 c6 w6 hown mN hgr hA6;have HA:=fH hown mN hgr;clear hown mN hgr hA6))
 have hw:ve W.heap.size w6 (G A6 2 c6) [t,t2]:=by
  have hz:W.heap.size<=Z.heap.size:=HX.q1.sizes;have hb2:aZ Y2 (Y2.alloc (D #[G A2 t2.length c2] 86)):=dE;have hkg:Bk (Y2.alloc (D #[G A2 t2.length c2] 86)) g #[G A1 t.length c1] 86:=(HX.q2.only HG.q1.2 ar).alloc _;have ho6:Only (λ x=>x=g) (Y2.alloc (D #[G A2 t2.length c2] 86)) w6:=(Only.refl _ _).grown HA.t2 λ g' II=>.inl (by cases II;rfl);have EI:nX W.heap.size (Y2.alloc (D #[G A2 t2.length c2] 86)) (G A1 t.length c1) t:=(HX.t2.only HG.q1.2 (λ g h=>ar)).only (aw (S:=λ _=>False) hb2) λ _ h=>h.elim;have hv2:nX W.heap.size (Y2.alloc (D #[G A2 t2.length c2] 86)) (G A2 t2.length c2) t2:=(HG.t1.mono hz).only (aw (S:=λ _=>False) hb2) λ _ h=>h.elim;refine⟨_,rfl,HA.q1,λ i u ws hu hw=>?_⟩;match i,hu,hw with
  |0,hu,hw=>
   cases hu;cases hw
   exact EI.apart hkg ho6
  |1,hu,hw=>
   cases hu;cases hw
   exact hv2.apart hkg ho6
 have hO:wZ pb b T c k2 e W w6:=by have h1:=(HX.q1.2.trans HG.q1.2).alloc (D #[G A2 t2.length c2] 86);exact⟨(HG.q1.1.grow (aj Y2 (D #[G A2 t2.length c2] 86))).below HA.q2 lp h1.size,h1.below HA.q2⟩
 have HO:=dt hO hw;clear hO hw HA HG HX;rw[rounds_succ];go_wp2_with (go_at_call 152;refine(nY _ pb b T c k2 e s' HO.q1.1 kW.t4).mono ?_;rintro r Z2 ⟨rfl,hb⟩;have HB:=aG hb;clear hb);go_ret;exact⟨⟨_,rfl,HO.t1.only (aw (S:=λ _=>False) HB.o) λ _ h=>h.elim⟩,HO.q1.1.grow HB.o,HO.q1.2.trans (aw HB.o)⟩
def NN(T:List Tok)(k:Nat)(od:List (List Ts))(k':Nat):Prop:=
 (∃t,od=[t]/\sI T k t k'/\tK T k' orB)\/(∃t t2 k1 n a,od=[t,t2]/\sI T k t k1/\T[k1]?=O (1,orB,n,a)/\sI T (k1+1) t2 k'/\tK T k' orB)
theorem Po(W:agb)(pb b:Nat)(T:List Tok)(c k k':Nat)(e:Int)(od:List (List Ts))(h:pK W pb b T c k e)(ht:NN T k od k'):
 Calls prog 153 #[M (O ⟨pb,0,U⟩),.func (.func 154) #[M (O ⟨pb,0,U⟩)] #[],.string orB] W λ r W'=>(∃v,r=.returned v/\ve W.heap.size W' v od)/\wZ pb b T c k' e W W':=by
 rcases ht with⟨t,rfl,h1,h2⟩|⟨t,t2,k1,n,a,rfl,h1,h2,h3,h4⟩
 · exact Sr W pb b T c k k' e _ t h h1 h2
 · exact Ss W pb b T c k k1 k' e n a _ t t2 h h1 h2 h3 h4
abbrev Su:BA0:=⟨#[108,105,109,105,116]⟩
abbrev aay:BA0:=⟨#[102,101,101]⟩
abbrev aaz:BA0:=⟨#[116,97,120]⟩
theorem Sx(W:agb)(pb b ib:Nat)(T:List Tok)(c k:Nat)(e:Int)(h:pK W pb b T c k e)(hn:tK T k Su):
 Calls prog 145 #[M (O ⟨pb,0,U⟩),M (O ⟨ib,0,U⟩)] W λ r W'=>(∃v,r=.returned v)/\aZ W W':=by
 have HC:=aG (nY W pb b T c k e _ h hn);clear h hn;go_enter func145,ntmps145;go_wp2_with (go_at_call 152;refine HC.o.mono ?_;rintro r Y ⟨rfl,hb⟩;have HB:=aG hb;clear hb);go_end0;exact⟨⟨_,rfl⟩,HB.o⟩
theorem Pp(W:agb)(pb ib:Nat):
 Calls prog 146 #[M (O ⟨pb,0,U⟩),M (O ⟨ib,0,U⟩)] W λ r W'=>(∃v,r=.returned v)/\aZ W W':=by
 go_enter func146,ntmps146;go_wp2_with fail;go_end0;exact⟨⟨_,rfl⟩,aA _ W⟩
theorem LP(W:agb)(pb b ib:Nat)(T:List Tok)(c k k1:Nat)(e n a:Int)(s:BA0)(x0 x1 x2 x8:R)(h:pK W pb b T c k e)(hi:Bk W ib #[x0,x1,x2,I J 0,I J 0,I J 0,I J 0,I J 0,x8] 52)(hip:ib≠pb)(hib:b≠ib)(e1:k+1=k1)(hk:T[k]?=O (2,s,n,a))(h1:tK T k1 aay)(h2:tK T k1 aaz):
 Calls prog 147 #[M (O ⟨pb,0,U⟩),M (O ⟨ib,0,U⟩)] W λ r W'=>(∃v,r=.returned v)/\pK W' pb b T c k1 e/\Bk W' ib #[x0,x1,x2,I J n,I J 0,I J 1,I J 0,I J 1,x8] 52/\Only (λ g=>g=pb\/g=ib) W W':=by
 have hL:xu W pb b T c e ib 52 (λ _=>True) k #[x0,x1,x2,I J 0,I J 0,I J 0,I J 0,I J 0,x8] W:=⟨h,hi,trivial,Only.refl _ _,hip,hib,λ _ _ _ _=>trivial⟩;have HS:=aG hL;clear hL h hi;have HN:=fH hk h1 h2;clear hk h1 h2;go_enter func147,ntmps147;go_upto_region 1 with(go_at_call 151;refine(lM _ pb b T c k e 2 n a s HS.o.p HN.q1).mono ?_;rintro r X ⟨rfl,hg⟩;rw[e1] at hg;replace HS:=aG (HS.o.go hg);have lb:=HS.o.v.lt;have fb:=HS.o.v.free;have cb:=HS.o.v.cell;clear hg);replace HS:=aG (HS.o.aS 3 (I J n));clear lb fb cb;obtain⟨X1,FD⟩:∃X1,X.setCell ⟨ib,3,U⟩ (I J n)=X1:=⟨_,rfl⟩;rw[FD] at HS⊢;clear FD;have lb:=HS.o.v.lt;have fb:=HS.o.v.free;have cb:=HS.o.v.cell;go_upto_region 2 with fail;replace HS:=aG ((((HS.o.aS 4 (I J 0)).aS 5 (I J 1)).aS 6 (I J 0)).aS 7 (I J 1));clear lb fb cb;go_upto_region 4 with(go_at_call 152;refine(nY _ pb b T c k1 e aay HS.o.p HN.q2).mono ?_;rintro r Y ⟨rfl,hb⟩;replace HS:=aG (HS.o.grow hb);clear hb);go_wp2_with (go_at_call 152;refine(nY _ pb b T c k1 e aaz HS.o.p HN.t2).mono ?_;rintro r Y ⟨rfl,hb⟩;replace HS:=aG (HS.o.grow hb);clear hb);go_end0;exact⟨⟨_,rfl⟩,HS.o.p,HS.o.v,HS.o.o⟩
def JA:List (BA0×R):=[(⟨#[97,108,108,111,119]⟩,I J 1),(⟨#[100,101,110,121]⟩,I J 2),(⟨#[112,114,105,99,101]⟩,I J 3),(⟨#[114,101,115,97,108,101]⟩,I J 4),(⟨#[114,101,102,117,110,100]⟩,I J 5),(⟨#[116,111,103,101,116,104,101,114]⟩,I J 6),(⟨#[115,105,110,103,108,101]⟩,I J 7)]
def WZ(pb:Nat):List (Int×R):=[(1,.func (.func 145) #[M (O ⟨pb,0,U⟩)] #[]),(2,.func (.func 146) #[M (O ⟨pb,0,U⟩)] #[]),(3,.func (.func 147) #[M (O ⟨pb,0,U⟩)] #[]),(4,.func (.func 148) #[M (O ⟨pb,0,U⟩)] #[]),(5,.func (.func 149) #[M (O ⟨pb,0,U⟩)] #[]),(6,.func (.func 146) #[M (O ⟨pb,0,U⟩)] #[]),(7,.func (.func 146) #[M (O ⟨pb,0,U⟩)] #[])]
abbrev mZ:Array R:=#[I J 0,.string ⟨#[]⟩,G U 0 0,I J 0,I J 0,I J 0,I J 0,I J 0,I J 0]
theorem Pq{o:Option Nat}{X u:agb}:Only (λ g=>o=O g) X (jP o X u):=⟨rfl,rfl,rfl,Ph,λ k hk hn=>FB hk hn⟩
abbrev GX(kd:Int)(nm:BA0)(v:R)(n d pn:Int):Array R:=#[I J kd,.string nm,v,I J n,I J 0,I J d,I J 0,I J d,I J pn]
structure Ra(W:agb)(pb b:Nat)(T:List Tok)(c:Nat)(e:Int)(mb k:Nat)(X:agb):Prop where
 p:pK X pb b T c k e
 z:Bk X W.heap.size mZ 52
 s:cS X (W.heap.size+1) JA
 i:eh X mb (WZ pb)
 o:Only (λ g=>g=pb) W X
 m:W.heap.size<mb
 l:pb<W.heap.size
section
variable{W X X':agb}{pb b:Nat}{T:List Tok}{c:Nat}{e:Int}{mb k k':Nat}
theorem Ra.go(h:Ra W pb b T c e mb k X)(hg:wZ pb b T c k' e X X'):Ra W pb b T c e mb k' X':=by have hm:=h.m;have hl:=h.l;exact⟨hg.1,h.z.only hg.2 ar,h.s.only hg.2 ar,h.i.only hg.2 ar,h.o.trans hg.2,hm,hl⟩
theorem Ra.grow(h:Ra W pb b T c e mb k X)(hb:aZ X X'):Ra W pb b T c e mb k X':=h.go ⟨h.p.grow hb,aw hb⟩
end
def Sy(T:List Tok)(k:Nat)(kd N d:Int)(k':Nat):Prop:=
 (kd=1/\N=0/\d=0/\k'=k/\tK T k Su)\/(kd=2/\N=0/\d=0/\k'=k)\/(kd=3/\d=1/\k'=k+1/\∃s a,T[k]?=O (2,s,N,a)/\tK T k' aay/\tK T k' aaz)
def ET(lo:Nat)(X:agb)(v:R)(od:List (List Ts)):Prop:=(od=[]/\v=G U 0 0)\/ve lo X v od
theorem ET.only{lo:Nat}{X X':agb}{v:R}{od:List (List Ts)}{S:Nat->Prop}(h:ET lo X v od)(ho:Only S X X')(hS:∀g,S g->g<lo):ET lo X' v od:=h.imp id λ h=>h.only ho hS
theorem ET.mono{lo LO:Nat}{X:agb}{v:R}{od:List (List Ts)}(h:ET lo X v od)(hl:LO<=lo):ET LO X v od:=h.imp id λ h=>h.mono hl
theorem ve.form{lo:Nat}{X:agb}{v:R}{od:List (List Ts)}(h:ve lo X v od):∃A c,v=G A od.length c:=by obtain⟨vs,_,h2,_⟩:=h;obtain⟨A,c,e,_⟩:=fM h2;exact⟨A,c,e⟩
theorem Pr(Y:agb)(pb b:Nat)(T:List Tok)(c k:Nat)(e kd n a:Int)(s:BA0)(ob oo:Nat)(h:pK Y pb b T c k e)(hk:T[k]?=O (kd,s,n,a))(ho:Y.cell? ⟨ob,oo,U⟩=O (.string s)):
 Calls prog 151 #[M (O ⟨pb,0,U⟩),I J kd,G (O ⟨ob,oo,U⟩) 1 1] Y λ r W'=>r=.returned (.agg #[I J kd,.string s,I J n,I J a])/\wZ pb b T c (k+1) e Y W':=
 Ju Y pb b T c k e kd n a s _ h hk λ X hX=>uf X pb b T c k e kd n a s s ob oo 0 true (h.grow hX) hk ((World.cell?_of_block (a:=⟨ob,oo,U⟩) (hX.block ob (World.block_lt_of_cell? _ _ ho))).trans ho) bY
abbrev NQ:BA0:=⟨#[119,104,101,110]⟩
def Sz(T:List Tok)(k:Nat)(od:List (List Ts))(k':Nat):Prop:=(od=[]/\k'=k/\tK T k NQ)\/(∃n a,T[k]?=O (1,NQ,n,a)/\NN T (k+1) od k')
theorem SA(W:agb)(pb b:Nat)(T:List Tok)(c k k1 k2 k3 k4 k5:Nat)(e kd n0 pn n1 a1 N d n5 a5:Int)(kw nm:BA0)(od:List (List Ts))(h:pK W pb b T c k e)(e1:k+1=k1)(e2:k1+1=k2)(e5:k4+1=k5)(h0:T[k]?=O (1,kw,n0,pn))(vB:fJ kw JA=O (I J kd))(h1:T[k1]?=O (1,nm,n1,a1))(JB:Sy T k2 kd N d k3)(Zm:Sz T k3 od k4)(Zo:T[k4]?=O (3,⟨#[59]⟩,n5,a5)):
 Calls prog 73 #[M (O ⟨pb,0,U⟩)] W λ r W'=>(∃v,r=.returned (.agg (GX kd nm v N d pn))/\ET W.heap.size W' v od)/\wZ pb b T c k5 e W W':=by
 have qf:= @run_makeMap prog;have C9:∀(fn:Fn)(first cap:Array R)(w:agb),(Instr.makeFunc fn first cap).run prog w=.ok (.func fn first cap) w:=λ _ _ _ _=>rfl;have lp:=h.lt;have lo:=h.lo;have kW:=iM h h0 vB h1;have HE:=fH JB Zm Zo;clear h h0 vB h1 JB Zm Zo;obtain⟨X0,hX0⟩:∃X0,W.alloc (D mZ 52)=X0:=⟨_,rfl⟩;have hz0:X0.heap.size=W.heap.size+1:=by rw[<-hX0];simp
 have hB0:Bk X0 W.heap.size mZ 52/\aZ W X0:=by rw[<-hX0];exact⟨Bk.new W _ _,dE⟩
 have H0:Hid (cS ((W.alloc (D mZ 52)).alloc (.map #[] 0)) (W.heap.size+1) []/\Only (λ g=>g=W.heap.size+1) X0 ((W.alloc (D mZ 52)).alloc (.map #[] 0))):=by rw[hX0];have :=cS.new X0;rw[hz0] at this;exact aG ⟨this,(Only.refl _ _).alloc _⟩
 have HB:=dt hB0 hz0;clear hX0 hz0 hB0;go_enter func73,ntmps73
 go_upto_region 2 with(first
  |(refine eH rfl _ _ _ _ rfl 9 3 bC bn rfl H0.q1 ⟨#[97,108,108,111,119]⟩ rfl rfl (I J 1) rfl ?_;intro wC hC oC;replace H0:=dt hC (H0.t1.trans oC);clear hC oC)
  |(refine eH rfl _ _ _ _ rfl 9 3 bC bn rfl H0.q1 ⟨#[100,101,110,121]⟩ rfl rfl (I J 2) rfl ?_;intro wC hC oC;replace H0:=dt hC (H0.t1.trans oC);clear hC oC)
  |(refine eH rfl _ _ _ _ rfl 9 3 bC bn rfl H0.q1 ⟨#[112,114,105,99,101]⟩ rfl rfl (I J 3) rfl ?_;intro wC hC oC;replace H0:=dt hC (H0.t1.trans oC);clear hC oC)
  |(refine eH rfl _ _ _ _ rfl 9 3 bC bn rfl H0.q1 ⟨#[114,101,115,97,108,101]⟩ rfl rfl (I J 4) rfl ?_;intro wC hC oC;replace H0:=dt hC (H0.t1.trans oC);clear hC oC)
  |(refine eH rfl _ _ _ _ rfl 9 3 bC bn rfl H0.q1 ⟨#[114,101,102,117,110,100]⟩ rfl rfl (I J 5) rfl ?_;intro wC hC oC;replace H0:=dt hC (H0.t1.trans oC);clear hC oC)
  |(refine eH rfl _ _ _ _ rfl 9 3 bC bn rfl H0.q1 ⟨#[116,111,103,101,116,104,101,114]⟩ rfl rfl (I J 6) rfl ?_;intro wC hC oC;replace H0:=dt hC (H0.t1.trans oC);clear hC oC)
  |(refine eH rfl _ _ _ _ rfl 9 3 bC bn rfl H0.q1 ⟨#[115,105,110,103,108,101]⟩ rfl rfl (I J 7) rfl ?_;intro wC hC oC;replace H0:=dt hC (H0.t1.trans oC);clear hC oC))
 obtain⟨mb,ug⟩:∃x,wC.heap.size=x:=⟨_,rfl⟩;have aaw:∀t,(Instr.makeMap t U).run prog wC=.ok (.map (O mb)) (wC.alloc (.map #[] 0)):=λ t=>by rw[qf,ug]
 have H1:Hid (eh (wC.alloc (.map #[] 0)) mb []/\Only (λ g=>g=mb) wC (wC.alloc (.map #[] 0))):=aG ⟨by rw[<-ug];exact eh.new wC,(Only.refl _ _).alloc _⟩;have ad7:=aG ug;clear qf ug;obtain⟨X1,FD⟩:∃X1,wC=X1:=⟨_,rfl⟩;subst FD;rename_i X1
 go_upto_region 3 with(first
  |(refine gy rfl _ _ _ _ rfl 3 273 jS aJ rfl H1.q1 1 rfl rfl (.func (.func 145) #[M (O ⟨pb,0,U⟩)] #[]) rfl ?_;intro wC hC oC;replace H1:=dt hC (H1.t1.trans oC);clear hC oC)
  |(refine gy rfl _ _ _ _ rfl 3 273 jS aJ rfl H1.q1 2 rfl rfl (.func (.func 146) #[M (O ⟨pb,0,U⟩)] #[]) rfl ?_;intro wC hC oC;replace H1:=dt hC (H1.t1.trans oC);clear hC oC)
  |(refine gy rfl _ _ _ _ rfl 3 273 jS aJ rfl H1.q1 3 rfl rfl (.func (.func 147) #[M (O ⟨pb,0,U⟩)] #[]) rfl ?_;intro wC hC oC;replace H1:=dt hC (H1.t1.trans oC);clear hC oC)
  |(refine gy rfl _ _ _ _ rfl 3 273 jS aJ rfl H1.q1 4 rfl rfl (.func (.func 148) #[M (O ⟨pb,0,U⟩)] #[]) rfl ?_;intro wC hC oC;replace H1:=dt hC (H1.t1.trans oC);clear hC oC)
  |(refine gy rfl _ _ _ _ rfl 3 273 jS aJ rfl H1.q1 5 rfl rfl (.func (.func 149) #[M (O ⟨pb,0,U⟩)] #[]) rfl ?_;intro wC hC oC;replace H1:=dt hC (H1.t1.trans oC);clear hC oC)
  |(refine gy rfl _ _ _ _ rfl 3 273 jS aJ rfl H1.q1 6 rfl rfl (.func (.func 146) #[M (O ⟨pb,0,U⟩)] #[]) rfl ?_;intro wC hC oC;replace H1:=dt hC (H1.t1.trans oC);clear hC oC)
  |(refine gy rfl _ _ _ _ rfl 3 273 jS aJ rfl H1.q1 7 rfl rfl (.func (.func 146) #[M (O ⟨pb,0,U⟩)] #[]) rfl ?_;intro wC hC oC;replace H1:=dt hC (H1.t1.trans oC);clear hC oC))
 have hI:Ra W pb b T c e mb k wC:=by have hs0:=H0.t1.size;have hz0:=HB.t1;have hm:=ad7.o;have hlt:=H0.q1.lt;have hW:aZ W wC:=fV (fV HB.q1.2 H0.t1 ar) H1.t1 ar;exact⟨kW.q1.grow hW,(HB.q1.1.only H0.t1 ar).only H1.t1 ar,H0.q1.only H1.t1 ar,H1.q1,aw hW,ar,lp⟩
 clear H0 H1 HB ad7 aaw C9;refine forget (λ X=>Ra W pb b T c e mb k X) hI ?_;clear hI;intro X hI;have HS:=aG hI;clear hI;have h0:=kW.q2;have vB:=kW.q3
 have Sd:(kd==0)=false:=by
  unfold JA at vB;simp only[fJ] at vB;revert vB
  repeat(split; · intro q;cases q;rfl)
  intro q;cases q
 go_upto_region 5 with(first
  |(go_at_call 150;refine(xW _ pb b T c k e 1 n0 pn kw HS.o.p h0).mono ?_;rintro r X ⟨rfl,hb⟩;replace HS:=aG (HS.o.grow hb);obtain⟨hB,d0,d1,-,-,kq⟩:=HS.o.p.pick h0;have c0:=hB.cell 0;have lb:=HS.o.p.lt;have LO:=HS.o.p.lo;have lc:=HS.o.p.cap;have lf:=HS.o.p.few;have lbb:b<X.heap.size:=ar;have hl0:(0:Int)<((T.length - k:Nat):Int):=ar;clear hB hb)
  |(refine Ag (o:=⟨O 37,_,_,_,_,_⟩) (by rfl) _ _ _ rfl 9 3 bC bn (I J 0) aV rfl HS.o.s kw rfl ?_;rw[vB]))
 clear d0 d1 kq c0 lb LO lc lf lbb hl0;go_upto_region 6 with(go_at_call 151;refine(lM _ pb b T c k e 1 n0 pn kw HS.o.p h0).mono ?_;rintro r X ⟨rfl,hg⟩;rw[e1] at hg;replace HS:=aG (HS.o.go hg);clear hg);obtain⟨X6,hX6⟩:∃X6,X.alloc (D #[I J 1,.string kw,I J n0,I J pn] 234)=X6:=⟨_,rfl⟩;obtain⟨tb,uG⟩:∃x,X.heap.size=x:=⟨_,rfl⟩;have IJ:Bk X6 tb #[I J 1,.string kw,I J n0,I J pn] 234:=by rw[<-hX6];exact au _ _ _ _ uG
 have htW:W.heap.size<=tb:=by have :=HS.o.o.size;omega
 replace HS:=aG (HS.o.grow (aj X (D #[I J 1,.string kw,I J n0,I J pn] 234)));rw[hX6] at HS⊢;rw[uG];clear hX6 uG;have lr:=IJ.lt;have cr:=IJ.cell;have hne:tb≠pb:=ar;have xb:∀u i,(jP (O pb) X6 u).cell? ⟨tb,i,U⟩=(#[I J 1,.string kw,I J n0,I J pn]:Array R)[i]?:=λ u i=>(fE tb i lr (λ e=>hne (aO e).symm)).trans (cr i);have h1:=kW.t3;have Zp:Hid (∀w9,(∃u,w9=jP (O pb) X6 u)->cS w9 (W.heap.size+1) JA):=aG λ w9 ⟨u,hu⟩=>by rw[hu];exact HS.o.s.only (Pq (o:=O pb) (X:=X6) (u:=u)) gW
 have yR:∀Y,Ra W pb b T c e mb k1 Y->Calls prog 151 #[M (O ⟨pb,0,U⟩),I J 1,G U 0 0] Y λ r W'=>r=.returned (.agg #[I J 1,.string nm,I J n1,I J a1])/\Ra W pb b T c e mb k2 W'/\Only (λ g=>O pb=O g) Y W':=λ Y hY=>(lM _ pb b T c k1 e 1 n1 a1 nm hY.p h1).mono λ r W' ⟨q,hg⟩=>⟨q,hY.go (e2▸hg),Sj hg⟩;have HN:=aG yR;clear yR;have lt6:=IJ.lt;go_upto_region 6 with fail;go_cut [6] (λ p X'=>∃ib,p=M (O ⟨ib,0,U⟩)/\Ra W pb b T c e mb k2 X'/\Bk X' ib #[I J kd,.string nm,G U 0 0,I J 0,I J 0,I J 0,I J 0,I J 0,I J pn] 52/\W.heap.size<ib)
 case first =>
  replace HS:=aG (HS.o.grow (qx X6));have HO:Hid (Only (λ g=>O pb=O g) X6 X6.drew):=aG ((Only.refl _ _).drew);refine Ah (S:=λ w'=>∃u,w'=jP (O pb) X6 u) [([0,1,2,3,4,5,6],[])] 7 [([8,9],[10])] 10 [([],[7]),([8,9],[])] 11 aV (by decide+kernel) (dT HO.o) ?_;refine bT (λ K9 h9=>?_);simp only[aH,aU,aW,aa,ae]
  iterate 3 (go_big_quiet_step (fail))
  go_big_quiet_want
  refine nW _ _ _ rfl 9 3 bC bn (I J 0) (by intro w;kernel_rfl) rfl Zp.o kw rfl ?_;rw[vB];go_simp;go_big_quiet_on
  repeat(go_big_quiet_step (fail))
  refine wpQuiet_nil (h9 _ ?_);clear h9 K9;refine bU (dF ⟨?_,?_⟩)
  · refine jM (λ K9 h9=>?_)
    simp only[aW,aa,ae];go_wp2_with (go_at_call 151;with_reducible refine(HN.o _ HS.o).mono ?_;rintro r X1 ⟨rfl,hp,ho⟩;replace HO:=aG (HO.o.trans ho);replace HS:=aG hp;clear hp ho);refine h9 _ _ (dT HO.o) ?_;clear h9 K9;(refine bT (λ K9 h9=>?_);simp only[aH,aU,aW,aa,ae];(repeat(go_big_quiet_step (fail)));refine wpQuiet_nil (h9 _ ?_);clear h9 K9)
    (refine cM (λ K9 h9=>?_);simp only[aW,aa,ae])
    go_wp2_with fail;refine h9 _ _ (dT (HO.o.alloc _)) ?_;clear h9 K9;refine bU (dF ?_);simp only[aW,aa,ae];go_wp2_with fail;go_meet;have hz:=HS.o.o.size;have hz0:=HS.o.l;have hm:=HS.o.m;have hi:=HS.o.i.lt;exact⟨X1.heap.size,rfl,HS.o.grow (aj _ _),Bk.new _ _ _,ar⟩
  · refine jM (λ K9 h9=>?_)
    simp only[aW,aa,ae];go_wp2_with fail;refine h9 _ _ (dT (HO.o.alloc _)) ?_;clear h9 K9;obtain⟨ib,hib⟩:∃x,X6.drew.heap.size=x:=⟨_,rfl⟩;have hbi:Bk (X6.drew.alloc (D mZ 52)) ib mZ 52:=au _ _ _ _ hib;have hz:=HS.o.o.size;have hi:=HS.o.i.lt;have hm:=HS.o.m;have W6:Only (λ g=>O pb=O g) X6 (X6.alloc (D mZ 52)).drew:=HO.o.alloc (D mZ 52);replace HO:=aG W6;have hS1:Ra W pb b T c e mb k1 (X6.alloc (D mZ 52)).drew:=HS.o.grow (aj X6.drew (D mZ 52));replace HS:=aG hS1;have hB1:Bk (X6.alloc (D mZ 52)).drew ib mZ 52:=hbi;have HB:=aG hB1;clear W6 hS1 hB1;have hl:=HS.o.l;rw[show X6.heap.size=ib from hib];clear hbi;refine bT (λ K9 h9=>?_);simp only[aU];refine wpQuiet_nil (h9 _ ?_);clear h9 K9;refine cM (λ K9 h9=>?_);simp only[aW,aa,ae];go_wp2_with (go_at_call 151;with_reducible refine(HN.o _ HS.o).mono ?_;rintro r X1 ⟨rfl,hp,ho⟩;replace HB:=aG (HB.o.only ho (λ q=>by cases q;omega));replace HO:=aG (HO.o.trans ho);replace HS:=aG hp;clear hp ho);refine h9 _ _ (dT HO.o) ?_;clear h9 K9;refine bU ?_;(refine bT (λ K9 h9=>?_);simp only[aH,aU,aW,aa,ae];(repeat(go_big_quiet_step (fail)));refine wpQuiet_nil (h9 _ ?_);clear h9 K9)
    refine bU (dF ?_);simp only[aW,aa,ae];have cb:=HB.o.cell;have fb:=HB.o.free;have lb:=HB.o.lt;go_wp2_with fail;go_meet;have hw:=iA (b:=ib) [I J kd,.string nm,G U 0 0,I J 0,I J 0,I J 0,I J 0,I J 0,I J pn] 0 X1;have hs:=HS.o;refine⟨ib,rfl,⟨hs.p.only hw ar ar,hs.z.only hw ar,hs.s.only hw ar,hs.i.only hw ar,hs.o.trans' hw λ g hg=>.inr ar,hs.m,hs.l⟩,jF HB.o #[I J kd,.string nm,G U 0 0,I J 0,I J 0,I J 0,I J 0,I J 0,I J pn] rfl,ar⟩
 case rest=>
  obtain⟨X,Ae⟩:∃X,X=wc:=⟨_,rfl⟩;rw[<-Ae] at hcut⊢;clear Ae HS Zp HN IJ lt6 hne xb cr lr;obtain⟨ib,rfl,g1,g2,g3⟩:=hcut;have hgp:=g1.l;have hgo:=g1.o.size;have hgb:=g1.p.lo;have HI:=aG g1.i;have HR:Hid (xu W pb b T c e ib 52 (λ X=>Bk X W.heap.size mZ 52) k2 (GX kd nm (G U 0 0) 0 0 pn) X):=aG ⟨g1.p,g2,g1.z,g1.o.mono λ g hg=>.inl hg,ar,ar,λ X X' ho hk=>hk.only ho ar⟩;have cb:=g2.cell 0;have fb:=g2.free 0;have lb:=g2.lt;clear g1 g2 kW;go_upto_region 7 with fail;go_cut [] (λ X'=>xu W pb b T c e ib 52 (λ X=>Bk X W.heap.size mZ 52) k3 (GX kd nm (G U 0 0) N d pn) X')
  case first =>
   rcases HE.q1 with⟨rfl,rfl,rfl,rfl,hn⟩|⟨rfl,rfl,rfl,rfl⟩|⟨rfl,rfl,rfl,s,a,ht,hn,JC⟩
   · go_wp2_with (first
      |(refine dQ rfl _ _ _ rfl 3 273 jS aJ .nilFunc aV rfl HI.o 1 rfl ?_;rw[show gj 1 (WZ pb)=O (.func (.func 145) #[M (O ⟨pb,0,U⟩)] #[]) from rfl])
      |(go_at_call 145;refine(Sx _ pb b ib T c _ e HR.o.p hn).mono ?_;rintro r X1 ⟨⟨v,rfl⟩,hb⟩;replace HR:=aG (HR.o.grow hb);clear hb))
     go_meet;exact HR.o
   · go_wp2_with (first
      |(refine dQ rfl _ _ _ rfl 3 273 jS aJ .nilFunc aV rfl HI.o 2 rfl ?_;rw[show gj 2 (WZ pb)=O (.func (.func 146) #[M (O ⟨pb,0,U⟩)] #[]) from rfl])
      |(go_at_call 146;refine(Pp _ pb ib).mono ?_;rintro r X1 ⟨⟨v,rfl⟩,hb⟩;replace HR:=aG (HR.o.grow hb);clear hb))
     go_meet;exact HR.o
   · go_wp2_with (first
      |(refine dQ rfl _ _ _ rfl 3 273 jS aJ .nilFunc aV rfl HI.o 3 rfl ?_;rw[show gj 3 (WZ pb)=O (.func (.func 147) #[M (O ⟨pb,0,U⟩)] #[]) from rfl])
      |(go_at_call 147;refine(LP _ pb b ib T c _ _ e _ _ _ _ _ _ _ HR.o.p HR.o.v HR.o.ne HR.o.na rfl ht hn JC).mono ?_;rintro r X1 ⟨⟨v,rfl⟩,hp,hv,ho⟩;have h9:=HR.o;replace HR:=aG (show xu W pb b T c e ib 52 (λ X=>Bk X W.heap.size mZ 52) _ _ X1 from⟨hp,hv,h9.st _ _ ho h9.f,h9.o.trans ho,h9.ne,h9.na,h9.st⟩);clear hp hv ho h9))
     go_meet;exact HR.o
  case rest=>
   obtain⟨X,Ae⟩:∃X,X=wc:=⟨_,rfl⟩;rw[<-Ae] at hcut⊢;clear Ae HR HI cb fb lb;have HS:=aG hcut;clear hcut;have C9:∀(fn:Fn)(first cap:Array R)(w:agb),(Instr.makeFunc fn first cap).run prog w=.ok (.func fn first cap) w:=λ _ _ _ _=>rfl;rcases HE.q2 with⟨rfl,rfl,hn⟩|⟨n,a,ht,hw⟩
   case' inl=>
    go_upto_region 10 with(go_at_call 152;refine(nY _ pb b T c _ e NQ HS.o.p hn).mono ?_;rintro r X1 ⟨rfl,hb⟩;replace HS:=aG (HS.o.grow hb);clear hb);obtain⟨l9,hl9⟩:∃x,X1.heap.size=x:=⟨_,rfl⟩;have hi9:ib<l9:=by have :=HS.o.v.lt;omega
    have hp9:pb<l9:=by have :=HS.o.p.lt;omega
    have qh:W.heap.size<l9:=by have :=HS.o.o.size;omega
    obtain⟨A9,n9,c9,HV⟩:∃(A9:dB) (n9 c9:Nat),Hid (xu W pb b T c e ib 52 (λ X=>Bk X W.heap.size mZ 52/\ET l9 X (G A9 n9 c9) []) k4 (GX kd nm (G A9 n9 c9) N d pn) X1):=⟨U,0,0,aG (HS.o.acu ⟨HS.o.f,.inl ⟨rfl,rfl⟩⟩ λ X X' ho hk=>⟨hk.1.only ho ar,.inl ⟨rfl,rfl⟩⟩)⟩;clear hn HS hl9
   case' inr=>
    have ltX:=HS.o.o.size;go_upto_region 9 with(go_at_call 152;refine(C5 _ pb b T c _ e n a NQ HS.o.p ht).mono ?_;rintro r X1 ⟨rfl,hg⟩;replace HS:=aG (HS.o.go hg);clear hg);obtain⟨l9,hl9⟩:∃x,X1.heap.size=x:=⟨_,rfl⟩;have hi9:ib<l9:=by have :=HS.o.v.lt;omega
    have hp9:pb<l9:=by have :=HS.o.p.lt;omega
    have qh:W.heap.size<l9:=by have :=HS.o.o.size;omega
    go_upto_region 10 with(go_at_call 153;refine(Po _ pb b T c _ _ e od HS.o.p hw).mono ?_;rintro r X2 ⟨⟨v,rfl,hv⟩,hg⟩;rw[hl9] at hv;obtain⟨A9,c9,rfl⟩:=hv.form;replace HS:=aG (HS.o.go hg);have HW:=aG hv;have lb:=HS.o.v.lt;have fb:=HS.o.v.free;have cb:=HS.o.v.cell;clear hg hv);clear lb fb cb hw ht hl9;have HV:Hid (xu W pb b T c e ib 52 (λ X=>Bk X W.heap.size mZ 52/\ET l9 X (G A9 od.length c9) od) k4 (GX kd nm (G A9 od.length c9) N d pn) (X2.setCell ⟨ib,2,U⟩ (G A9 od.length c9))):=aG ((HS.o.acu ⟨HS.o.f,.inr HW.o⟩ (λ X X' ho hk=>⟨hk.1.only ho ar,hk.2.only ho ar⟩)).aS 2 (G A9 od.length c9));obtain⟨n9,kT⟩:∃n,od.length=n:=⟨_,rfl⟩;rw[kT] at HV⊢;clear kT HS HW;obtain⟨X3,Zk⟩:∃X3,X2.setCell ⟨ib,2,U⟩ (G A9 n9 c9)=X3:=⟨_,rfl⟩;rw[Zk] at HV⊢;clear Zk
   all_goals(
    have hk5:=HE.t2;go_upto_region 11 with(go_at_call 151;refine(Pr _ pb b T c _ e 3 n5 a5 ⟨#[59]⟩ _ _ (HV.o.grow dE).p hk5 (by simp[go_sem])).mono ?_;rintro r X5 ⟨rfl,hg⟩;rw[e5] at hg;replace HV:=aG ((HV.o.grow (aj _ _)).go hg);clear hg);have hB:=HV.o.v;obtain⟨cb,lb⟩:=hB.cl0;have h0:=HV.o.f.1;have c0:=h0.cell;have f0:=h0.free;have l0:=h0.lt;have hD:=HV.o.done ar;have HD:=iM hD hB h0 HV.o.f.2;clear hD hB h0 HV;go_wp2_with fail;have hww:=iA (b:=W.heap.size) (GX kd nm (G A9 n9 c9) N d pn).toList 0 X5;exact bodyPost_ret (gD (p:=⟨W.heap.size,0,U⟩) rfl rfl (Bk.load (jF HD.q3 (GX kd nm (G A9 n9 c9) N d pn) rfl) underlying52 rfl aV)) rfl ⟨⟨_,rfl,(HD.t3.only hww ar).mono ar⟩,HD.q1.Jv (l:=(GX kd nm (G A9 n9 c9) N d pn).toList) lo (ah _) lp⟩)
end
end Go.Proofs.YtbcpcneadjcmlaaGreatDoor
