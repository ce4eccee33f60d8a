import Derived.Test.YtbcpcneadjcmlaaGreatDoorK31
namespace Go.Proofs.YtbcpcneadjcmlaaGreatDoor
open Go.Proofs.Tryz
set_option maxRecDepth 100000
set_option maxHeartbeats 16000000
set_option linter.unusedVariables false
set_option linter.unusedSimpArgs false
open Value renaming int→I,slice→G,pointer→M
open IntKind renaming i64→J
open Obj renaming cells→D
open Option renaming some→O,none→U
open Go renaming World→agb
section
open Go.RowKit Go.Maps
attribute [local go_sem] aQ aC bW
structure aaC(w:agb)(A:dB)(n cap:Nat)(f:Fc)(X:agb):Prop where
 low:aZ w X
 p:Bk X w.heap.size #[G A n cap] 38
 f:Bk X (w.heap.size+1) #[I J (eO f 0),I J (eO f 1),I J (eO f 2),I J (eO f 3),I J (eO f 4),I J (eO f 5),I J (eO f 6),I J (eO f 7),I J (eO f 8),I J (eO f 9)] 31
theorem aaC.keep{w X X':agb}{A:dB}{n cap:Nat}{f:Fc}(h:aaC w A n cap f X)(hb:aZ X X'):aaC w A n cap f X':=
 ⟨h.low.trans (hb.mono h.low.size),h.p.below hb,h.f.below hb⟩
structure St(rs:List Rl)(b:Nat)(A1 A2:dB)(c1 c2:Nat)(T:List Nd)(Lv:List Dk)(X:agb):Prop where
 e1:ic vH X A1 (T.map pA)
 e2:ic Hm X A2 Lv
 bk:Bk X b #[G A1 T.length c1,G A2 Lv.length c2] 56
 ok:mU (bc rs) aP (iK rs) T Lv
theorem St.keep{rs:List Rl}{b:Nat}{A1 A2:dB}{c1 c2:Nat}{T:List Nd}{Lv:List Dk}{X X':agb}(h:St rs b A1 A2 c1 c2 T Lv X)(hb:aZ X X'):St rs b A1 A2 c1 c2 T Lv X':=
 ⟨h.e1.keep hb hb.size,h.e2.keep hb hb.size,h.bk.below hb,h.ok⟩
theorem aen{A:dB}{rs:List Rl}{cap:Nat}{w:agb}(h:ic se w A rs)(r:Bool)(hr:ado rs 6=r):∀X,aZ w X->Calls prog 17 #[.agg #[G A rs.length cap],I J 6] X (jL (.bool r) X):=λ X hX=>by have :=aeN A rs cap rs.length 6 X w.heap.size (h.keep hX (ah _)) hX.size rfl ar;rwa [hr] at this
theorem aeh{s t:JS}(h:byV s t=vG t):∃(al tg si:Bool) (lim price fn fd tn td cn cd sn sd rn rd y y2:Int),vG s=#[.bool al,.bool tg,.bool si,I J lim,I J price,I J fn,I J fd,I J tn,I J td,I J cn,I J cd,I J sn,I J sd,I J rn,I J rd,I J y]/\vG t=#[.bool al,.bool tg,.bool si,I J lim,I J price,I J fn,I J fd,I J tn,I J td,I J cn,I J cd,I J sn,I J sd,I J rn,I J rd,I J y2]:=⟨_,_,_,_,_,_,_,_,_,_,_,_,_,_,_,_,TE t,rfl,h.symm⟩
theorem aek(A:dB)(rs:List Rl)(cap:Nat)(n:Int)(f:Fc)(w:agb)(h:ic se w A rs)(u6:rs.length<=cap)(hcm:cap<=maxLen)(Mr:0<=n)(JC:n<=255)(hf:f.length=10)(qd:∀x∈f,fits x)(ht:nu w):
 Calls prog 4 #[.agg #[G A rs.length cap],.int .u8 n,.agg (iw f)] w (jL (.bool true) w):=by
 rw[pC hf];have af8:cap<=9223372036854775807:=by unfold maxLen at hcm;omega
 have HH:=iM h ht hf qd;clear h ht hf qd hcm;go_enter func4,ntmps4;go_upto_region 2 with(go_at_call 5;refine(IB _ (HH.q2.below dE)).mono ?_;rintro e w1 ⟨rfl,hb⟩;have HB:=aG hb;clear hb);refine forget (λ W=>aaC w A rs.length cap f W) ⟨aq (ay (aj _ _) _) HB.o,((Bk.new w _ _).alloc _).below HB.o,(GF w _ _ _).below HB.o⟩ ?_;clear HB;clear w1;intro W hW;have c0:W.cell? ⟨w.heap.size,0,U⟩=O (G A rs.length cap):=hW.p.cell 0;have l0:=hW.p.lt;obtain⟨c1,l1⟩:=hW.f.cl0;have HW:=aG hW;clear hW;obtain⟨q1,N3⟩:∃v,ado rs 6=v:=⟨_,rfl⟩;obtain⟨q3,N4⟩:∃v,yH f=v:=⟨_,rfl⟩;have HQ1:=aG N3;have Wk:=aG N4;clear N3 N4;cases q1
 · as_aux_lemma=>go_wp2_with (go_at_call 17;refine(aen HH.q1 _ HQ1.o _ HW.o.low).mono ?_;rintro e w2 ⟨rfl,hb⟩);go_ret;exact⟨rfl,aq HW.o.low hb⟩
 have hq6:=(adi HQ1.o).1;have HC:=aG (λ(X:agb) (hX:aZ w X)=>aew A rs cap X (HH.q1.keep hX hX.size) ar (adi HQ1.o).2);go_upto_if 31 with(go_at_call 17;refine(aen HH.q1 _ HQ1.o _ HW.o.low).mono ?_;rintro e w2 ⟨rfl,hb2⟩;have H2:=aG (HW.o.keep hb2);have c02:w2.cell? ⟨w.heap.size,0,U⟩=O (G A rs.length cap):=H2.o.p.cell 0;have l02:=H2.o.p.lt;clear hb2);go_at_call 18
 refine(HC.o _ H2.o.low).mono ?_;rintro e w3 ⟨c,rfl,hb3,hc⟩;have H3:=aG (H2.o.keep hb3);clear hb3 c02 l02 c0 l0 c1 l1;by_cases hgt:3000<c
 · have hg1:decide (c > 3000)=true:=decide_eq_true hgt
   as_aux_lemma=>
   go_wp2_with fail;go_ret;exact⟨rfl,H3.o.low⟩
 have hg0:decide (c > 3000)=false:=decide_eq_false hgt;have HCc:=aG (adZ (hc ar));have afY:c<=3000:=ar;clear hc hgt;obtain⟨c1,l1⟩:=H3.o.f.cl0;go_upto_if 31 with(go_at_call 8;refine(Ng f _ (pC HH.q3) HH.q3 _ Wk.o _).mono ?_;rintro e w4 ⟨rfl,hb4⟩;have H4:=aG (H3.o.keep hb4);clear hb4);clear c1 l1;clear afY hg0 H2 H3 HW HC;cases q3
 · simp only[Bool.not_false]
   clear HCc HQ1;go_wp2_with fail;go_ret;exact⟨rfl,H4.o.low⟩
 simp only[Bool.not_true];refine forget (λ X=>aaC w A rs.length cap f X) H4.o ?_;clear H4;clear w2 w4;intro W hW;have c0:W.cell? ⟨w.heap.size,0,U⟩=O (G A rs.length cap):=hW.p.cell 0;have l0:=hW.p.lt;have HW:=aG hW;clear hW;have afE:rs.length<=9223372036854775807:=ar;cases hv:jg rs
 · have HV:=aG hv
   clear hv;as_aux_lemma=>
   go_upto_region 5 with(go_at_call 19;refine(adn A rs cap W (HH.q1.keep HW.o.low HW.o.low.size) afE HV.o).mono ?_;rintro e w5 ⟨hb,rfl⟩;have H5:=aG (HW.o.keep hb);clear hb);clear c0 l0;have c0:w5.cell? ⟨w.heap.size,0,U⟩=O (G A rs.length cap):=H5.o.p.cell 0;have l0:=H5.o.p.lt;go_upto_region 6 with(go_at_call 13;refine(aer A rs cap w5 (HH.q1.keep H5.o.low H5.o.low.size) afE HV.o).mono ?_;rintro e w6 ⟨hb,rfl⟩;have H6:=aG (H5.o.keep hb);clear hb);clear c0 l0;go_wp2_with fail;go_ret;exact⟨rfl,ay H6.o.low _⟩
 have HV:=aG hv;clear hv;go_upto_region 5 with(go_at_call 19;refine(Ir A rs cap W (HH.q1.keep HW.o.low HW.o.low.size) afE HCc.o).mono ?_;rintro e w5 ⟨hb,AF,cF,qs,rfl,hq,hR⟩;rw[if_pos HV.o] at hR;have H5:=fH (HW.o.keep hb) hq hR;clear hb hq hR);clear c0 l0 HW;have c0:w5.cell? ⟨w.heap.size,0,U⟩=O (G A rs.length cap):=H5.q1.p.cell 0;have l0:=H5.q1.p.lt;go_upto_region 6 with(go_at_call 13;refine(YY (cap:=cap) (HH.q1.keep H5.q1.low H5.q1.low.size) HV.o (HH.q2.below H5.q1.low) HCc.o).mono ?_;rintro e w6 ⟨hb,B1,m1,d1,B2,m2,d2,er,rfl,he⟩;have H6:=iM (H5.q1.keep hb) (H5.q2.keep hb hb.size) H5.t2 he;clear hb he);clear c0 l0 H5;clear w5;obtain⟨tb,uG⟩:∃z,w6.heap.size=z:=⟨_,rfl⟩;rw[uG];have hbl:=aj w6 (D #[G B1 m1 d1,G B2 m2 d2] 56);refine forget (λ Y=>aaC w A rs.length cap f Y/\ic EN Y AF qs/\U4 rs qs/\Bk Y tb #[G B1 m1 d1,G B2 m2 d2] 56/\(er=3\/(er=0/\∃(T:List Nd) (Lv:List Dk),m1=T.length/\m2=Lv.length/\ic vH Y B1 (T.map pA)/\ic Hm Y B2 Lv/\mU (bc rs) aP (iK rs) T Lv))) ⟨H6.q1.keep hbl,H6.q2.keep hbl hbl.size,H6.q3,au _ _ _ _ uG,?_⟩ ?_
 · rcases H6.t3 with h3|⟨h0,T,Lv,k1,k2,k3,k4,k5⟩
   · exact .inl h3
   · exact .inr ⟨h0,T,Lv,k1,k2,k3.keep hbl hbl.size,k4.keep hbl hbl.size,k5⟩
 clear hbl uG H6;clear w6;rintro Y ⟨hS,hE,hR,hb,he⟩;by_cases hnil:qs=[]
 · subst hnil
   have HS:=aG hS;clear hS hE hR hb he;as_aux_lemma=>
   go_wp2_with fail;go_ret;exact⟨rfl,HS.o.low⟩
 have hql:0<qs.length:=iY.2 hnil;have hq0:((qs.length:Int)==0)=false:=by simpa using(show ¬(qs.length:Int)=0 from ar)
 clear hnil;rcases he with rfl|⟨rfl,T,Lv,rfl,rfl,hE1,ZC,hT⟩
 · have HS:=aG hS
   clear hS hE hR hb;as_aux_lemma=>
   go_wp2_with fail;go_ret;exact⟨rfl,HS.o.low⟩
 have HS:=iM hS hE hR (show St rs tb B1 B2 d1 d2 T Lv Y from⟨hE1,ZC,hb,hT⟩);clear hS hE hR hb hE1 ZC hT;go_upto_region 8 with fail
 obtain⟨j,hj,rE⟩:∃j:Nat,Int.tmod n (qs.length:Int)=(j:Int)/\j<qs.length:=by
  refine⟨(Int.tmod n (qs.length:Int)).toNat,?_,?_⟩
  · rw[Int.toNat_of_nonneg (Int.tmod_nonneg _ Mr)]
  · have :=Int.tmod_lt_of_pos n (show 0<(qs.length:Int) from ar)
    have :=Int.tmod_nonneg (qs.length:Int) Mr;omega
 have hjI:(j:Int)<(qs.length:Int):=ar;have hqn:¬(qs.length:Int)=0:=ar;obtain⟨fb,fo,kd,xa,xb,g,rfl,qI,Hq,Hg,k0,k1,k2,g0,g1,g2,g3,g4,g5,g6,g7,g8,g9⟩:=aff HS.q2 rE;have hI:=aeV HS.q3 (az Hq.o);go_upto_region 9 with fail;obtain⟨xk,XY⟩:∃z,Y.heap.size=z:=⟨_,rfl⟩;rw[XY];have hbl:=aj Y (D #[I J kd,I J xa,I J xb,I J (eO g 0),I J (eO g 1),I J (eO g 2),I J (eO g 3),I J (eO g 4),I J (eO g 5),I J (eO g 6),I J (eO g 7),I J (eO g 8),I J (eO g 9)] 72);refine forget (λ Z=>aaC w A rs.length cap f Z/\St rs tb B1 B2 d1 d2 T Lv Z/\Bk Z xk #[I J kd,I J xa,I J xb,I J (eO g 0),I J (eO g 1),I J (eO g 2),I J (eO g 3),I J (eO g 4),I J (eO g 5),I J (eO g 6),I J (eO g 7),I J (eO g 8),I J (eO g 9)] 72) ⟨HS.q1.keep hbl,HS.t3.keep hbl,au _ _ _ _ XY⟩ ?_;clear hbl XY k0 k1 k2 g0 g1 g2 g3 g4 g5 g6 g7 g8 g9 qI HS hj rE hjI hqn hq0 hql Hq;clear Y;rintro Z ⟨z1,z2,z3⟩;obtain⟨ck,lk⟩:=z3.cl0;have c0:Z.cell? ⟨w.heap.size,0,U⟩=O (G A rs.length cap):=z1.p.cell 0;have l0:=z1.p.lt;have HZ:=fH z1 z2 z3;clear z1 z2 z3;rcases hI with⟨hk3,m,r,hrm,rfl,rfl,afM⟩|⟨rfl,a,b,aat,rb,hra,kS,rfl,rfl,ab5,lY,hha,rK⟩
 · have hml:=(ai.1 hrm).1
   have tu:¬(rs.length:Int)<=(m:Int):=ar;have tH:¬(m:Int)<0:=ar;have Aq:¬(rs.length:Int)<= -1:=ar;have hk4:(kd==3)=false:=by simpa using hk3
   have HX:=dt hrm afM;clear hrm afM;obtain⟨aaD,ro,csx,hA,-⟩:=HH.q1 0 ar;subst hA;have hcI:(rs.length:Int)<=(cap:Int):=ar;have hmc:(m:Int)<=(cap:Int):=ar;have af2:(m:Int)+1<=(rs.length:Int):=ar;go_upto_region 14 with fail;obtain⟨afk,p1,p2,p3,p4,p5⟩:=(aea HH.q1 m).flat;obtain⟨aeY,s1,s2,s3,s4,s5⟩:=(aeb HH.q1 (m+1)).flat;have aaH:(rs.take m).length=m:=by rw[dh];omega
   have aaK:(rs.drop (m+1)).length=rs.length - (m+1):=by rw[List.length_drop]
   rw[aaH] at p4;rw[aaK] at s4;have HP:=lQ p1 p2 p3 p4 p5;have HD:=lQ s1 s2 s3 s4 s5;have HT:=fH aaH aaK (show(rs.take m).length+(rs.length - (m+1))=rs.length - 1 by rw[aaH];omega)
   have HL1:Hid (∀W',aZ w W'->Cn W' (O ⟨aaD,ro,U⟩) m afk.flatten):=aG λ W' hB=>by have :=uJ HP.t4 hB;rwa [aaH] at this
   have HL2:Hid (∀W',aZ w W'->Cn W' (if cap=m+1 then O ⟨aaD,ro,U⟩ else O ⟨aaD,ro+(m+1)*8,U⟩) (rs.length - (m+1)) aeY.flatten):=aG λ W' hB=>by
    by_cases hc:cap=m+1
    · exact .inl ar
    · rw[if_neg hc]
      have :=uJ HD.t4 hB;rwa [aaK] at this
   have hws:w.heap.size<=Z.heap.size:=HZ.q1.low.size;have AG:∀X',aZ Z X'->∃u,X'=ext Z u:=λ X' h=>(let⟨u,e⟩:=dV h;⟨u,e.symm⟩);have kK:=aG AG;have HDr:=aG ((aA Z.heap.size Z).drew);clear AG;clear p1 p2 p3 p4 p5 s1 s2 s3 s4 s5 aaH aaK;have bI:aZ w Z:=HZ.q1.low;go_cut [13] (λ v X=>∃(pb c9:Nat) (A9:dB),v=M (O ⟨pb,0,U⟩)/\Z.heap.size<=pb/\Bk X pb #[G A9 (rs.length - 1) c9] 38/\ic se X A9 (rs.take m++rs.drop (m+1))/\aZ Z X)
   case first =>
    as_aux_lemma=>
    clear tu tH Aq;refine adB (S:=λ w'=>∃u,w'=ext Z u) [([1,2,3,4,5,7,8,9,10,11,12],[])] [0,6,13,14] 15 [] 16 aV aV (kK.o _ HDr.o) ?_;refine bT (λ K9 h9=>?_);simp only[aH,aU,aW,aa,ae];repeat(go_big_quiet_step (fail))
    refine wpQuiet_nil (h9 _ ?_);clear h9 K9;refine bU (dF ?_);have HB0:=aG HDr.o;generalize Z.drew=W0 at HB0⊢;clear ck lk c0 l0;refine aB ?_ ?_
    · as_aux_lemma=>
      refine abj (λ K9 H9=>?_);simp only[aW,aa,ae];repeat go_step
      obtain⟨g0,hg0⟩:∃g,W0.heap.size=g:=⟨_,rfl⟩;have k0:cH se 48 (W0.alloc (D #[] 48)) Z.heap.size w.heap.size (G (O ⟨g0,0,U⟩) 0 0) []:=hg0▸ael W0 (by have :=HB0.o.size;omega);have hb:=ay HB0.o (D #[] 48);rw[hg0];refine H9.o _ _ (kK.o _ hb) ?_;clear H9 K9 hg0;generalize W0.alloc (D #[] 48)=W1 at *;have HB1:=aG hb;have HK1:=aG k0;clear hb k0;refine aB ?_ ?_
      · as_aux_lemma=>
        refine abj (λ K9 H9=>?_);simp only[aW,aa,ae];at_builtin
        refine en (T:=se) (base:=Z.heap.size) (B:=w.heap.size) (qs:=[]) (v:=G (O ⟨g0,0,U⟩) 0 0) rfl _ _ _ rfl 88 rq aV cj U0 rfl HK1.o (O ⟨aaD,ro,U⟩) m cap (rs.take m) afk rfl HT.q1 (HP.q1.trans HT.q1) (λ i h1 h2=>se.keep (bI.trans (HB1.o.mono hws)) (ah _) (HP.q2 i h1 h2)) (HL1.o _ (bI.trans (HB1.o.mono hws))) (by first|(unfold maxLen;simp;omega)|(rw[HT.t2];unfold maxLen;omega)) (by first|(simp;omega)|(rw[HT.t2];omega)) HB1.o.size hws ?_;intro A7 c7 W2 k7 b7 q7 _;simp only[dG,bX,eV] at k7⊢;repeat go_step
        have hb:=HB1.o.trans b7;refine H9.o _ _ (kK.o _ hb) ?_;clear H9 K9 b7 q7;have Xr:=aG hb;have HK2:=aG k7;clear hb k7;refine aB ?_ ?_
        · as_aux_lemma=>
          refine abj (λ K9 H9=>?_);simp only[aW,aa,ae];at_builtin
          refine en (T:=se) (base:=Z.heap.size) (B:=w.heap.size) (qs:=rs.take m) (v:=G A7 m c7) rfl _ _ _ rfl 88 rq aV cj U0 rfl HK2.o _ (rs.length - (m+1)) _ (rs.drop (m+1)) aeY rfl HT.q2 (HD.q1.trans HT.q2) (λ i h1 h2=>se.keep (bI.trans (Xr.o.mono hws)) (ah _) (HD.q2 i h1 h2)) (HL2.o _ (bI.trans (Xr.o.mono hws))) (by first|(unfold maxLen;simp;omega)|(rw[HT.t2];unfold maxLen;omega)) (by first|(simp;omega)|(rw[HT.t2];omega)) Xr.o.size hws ?_;intro A8 c8 W3 k7 b7 q7 _;rw[HT.t2] at k7⊢;repeat go_step
          have hb:=Xr.o.trans b7;refine H9.o _ _ (kK.o _ hb) ?_;clear H9 K9 b7 q7;have HB3:=aG hb;have HK3:=aG k7;clear hb k7;refine aB ?_ ?_
          · as_aux_lemma=>
            refine abj (λ K9 H9=>?_);simp only[aW,aa,ae];repeat go_step
            refine H9.o _ _ (kK.o _ HB3.o) ?_;clear H9 K9;refine abj (λ K9 H9=>?_);simp only[aW,aa,ae];repeat go_step
            obtain⟨pb,oU⟩:∃g,W3.heap.size=g:=⟨_,rfl⟩;have kp:Bk (W3.alloc (D #[G U 0 0] 38)) pb #[G U 0 0] 38:=au _ _ _ _ oU;have hb:=ay HB3.o (D #[G U 0 0] 38);have hpl:Z.heap.size<=pb:=by have :=HB3.o.size;omega
            have k0:=HK3.o.below (aj W3 (D #[G U 0 0] 38)) (by have :=HB3.o.size;omega);rw[oU];refine H9.o _ _ (kK.o _ hb) ?_;clear H9 K9 oU;generalize W3.alloc (D #[G U 0 0] 38)=W4 at *;have HB4:=aG hb;clear hb;have HK4:=aG k0;clear k0;have HP4:=aG kp;clear kp;refine dF ?_;simp only[aW,aa,ae];have cp:=HP4.o.cell 0;have aaM:=HP4.o.free 0;have lp:=HP4.o.lt;repeat go_step
            go_meet;exact abH hws bI HB4.o HK4.o HP4.o hpl
          · as_aux_lemma=>
            refine abj (λ K9 H9=>?_);simp only[aW,aa,ae];repeat go_step
            obtain⟨pb,oU⟩:∃g,W3.heap.size=g:=⟨_,rfl⟩;have kp:Bk (W3.alloc (D #[G U 0 0] 38)) pb #[G U 0 0] 38:=au _ _ _ _ oU;have hb:=ay HB3.o (D #[G U 0 0] 38);have hpl:Z.heap.size<=pb:=by have :=HB3.o.size;omega
            have k0:=HK3.o.below (aj W3 (D #[G U 0 0] 38)) (by have :=HB3.o.size;omega);rw[oU];refine H9.o _ _ (kK.o _ hb) ?_;clear H9 K9 oU;generalize W3.alloc (D #[G U 0 0] 38)=W4 at *;have HB4:=aG hb;clear hb;have HK4:=aG k0;clear k0;have HP4:=aG kp;clear kp;refine abj (λ K9 H9=>?_);simp only[aW,aa,ae];repeat go_step
            refine H9.o _ _ (kK.o _ HB4.o) ?_;clear H9 K9;refine dF ?_;simp only[aW,aa,ae];have cp:=HP4.o.cell 0;have aaM:=HP4.o.free 0;have lp:=HP4.o.lt;repeat go_step
            go_meet;exact abH hws bI HB4.o HK4.o HP4.o hpl
        · as_aux_lemma=>
          refine abj (λ K9 H9=>?_);simp only[aW,aa,ae];repeat go_step
          obtain⟨pb,oU⟩:∃g,W2.heap.size=g:=⟨_,rfl⟩;have kp:Bk (W2.alloc (D #[G U 0 0] 38)) pb #[G U 0 0] 38:=au _ _ _ _ oU;have hb:=ay Xr.o (D #[G U 0 0] 38);have hpl:Z.heap.size<=pb:=by have :=Xr.o.size;omega
          have k0:=HK2.o.below (aj W2 (D #[G U 0 0] 38)) (by have :=Xr.o.size;omega);rw[oU];refine H9.o _ _ (kK.o _ hb) ?_;clear H9 K9 oU;generalize W2.alloc (D #[G U 0 0] 38)=W3 at *;have HB3:=aG hb;clear hb;have HK3:=aG k0;clear k0;have HP3:=aG kp;clear kp;refine abj (λ K9 H9=>?_);simp only[aW,aa,ae];at_builtin
          refine en (T:=se) (base:=Z.heap.size) (B:=w.heap.size) (qs:=rs.take m) (v:=G A7 m c7) rfl _ _ _ rfl 88 rq aV cj U0 rfl HK3.o _ (rs.length - (m+1)) _ (rs.drop (m+1)) aeY rfl HT.q2 (HD.q1.trans HT.q2) (λ i h1 h2=>se.keep (bI.trans (HB3.o.mono hws)) (ah _) (HD.q2 i h1 h2)) (HL2.o _ (bI.trans (HB3.o.mono hws))) (by first|(unfold maxLen;simp;omega)|(rw[HT.t2];unfold maxLen;omega)) (by first|(simp;omega)|(rw[HT.t2];omega)) HB3.o.size hws ?_;intro A8 c8 W4 k7 b7 q7 _;rw[HT.t2] at k7⊢;repeat go_step
          have hb:=HB3.o.trans b7;have kp:=I8 q7 HP3.o (abn HK3.o HP3.o cj);refine H9.o _ _ (kK.o _ hb) ?_;clear H9 K9 b7 q7;have HB4:=aG hb;have HK4:=aG k7;clear hb k7;have HP4:=aG kp;clear kp;refine abj (λ K9 H9=>?_);simp only[aW,aa,ae];repeat go_step
          refine H9.o _ _ (kK.o _ HB4.o) ?_;clear H9 K9;refine dF ?_;simp only[aW,aa,ae];have cp:=HP4.o.cell 0;have aaM:=HP4.o.free 0;have lp:=HP4.o.lt;repeat go_step
          go_meet;exact abH hws bI HB4.o HK4.o HP4.o hpl
      · as_aux_lemma=>
        refine abj (λ K9 H9=>?_);simp only[aW,aa,ae];repeat go_step
        obtain⟨pb,oU⟩:∃g,W1.heap.size=g:=⟨_,rfl⟩;have kp:Bk (W1.alloc (D #[G U 0 0] 38)) pb #[G U 0 0] 38:=au _ _ _ _ oU;have hb:=ay HB1.o (D #[G U 0 0] 38);have hpl:Z.heap.size<=pb:=by have :=HB1.o.size;omega
        have k0:=HK1.o.below (aj W1 (D #[G U 0 0] 38)) (by have :=HB1.o.size;omega);rw[oU];refine H9.o _ _ (kK.o _ hb) ?_;clear H9 K9 oU;generalize W1.alloc (D #[G U 0 0] 38)=W2 at *;have Xr:=aG hb;clear hb;have HK2:=aG k0;clear k0;have HP2:=aG kp;clear kp;refine abj (λ K9 H9=>?_);simp only[aW,aa,ae];at_builtin
        refine en (T:=se) (base:=Z.heap.size) (B:=w.heap.size) (qs:=[]) (v:=G (O ⟨g0,0,U⟩) 0 0) rfl _ _ _ rfl 88 rq aV cj U0 rfl HK2.o (O ⟨aaD,ro,U⟩) m cap (rs.take m) afk rfl HT.q1 (HP.q1.trans HT.q1) (λ i h1 h2=>se.keep (bI.trans (Xr.o.mono hws)) (ah _) (HP.q2 i h1 h2)) (HL1.o _ (bI.trans (Xr.o.mono hws))) (by first|(unfold maxLen;simp;omega)|(rw[HT.t2];unfold maxLen;omega)) (by first|(simp;omega)|(rw[HT.t2];omega)) Xr.o.size hws ?_;intro A7 c7 W3 k7 b7 q7 _;simp only[dG,bX,eV] at k7⊢;repeat go_step
        have hb:=Xr.o.trans b7;have kp:=I8 q7 HP2.o (abn HK2.o HP2.o cj);refine H9.o _ _ (kK.o _ hb) ?_;clear H9 K9 b7 q7;have HB3:=aG hb;have HK3:=aG k7;clear hb k7;have HP3:=aG kp;clear kp;refine abj (λ K9 H9=>?_);simp only[aW,aa,ae];at_builtin
        refine en (T:=se) (base:=Z.heap.size) (B:=w.heap.size) (qs:=rs.take m) (v:=G A7 m c7) rfl _ _ _ rfl 88 rq aV cj U0 rfl HK3.o _ (rs.length - (m+1)) _ (rs.drop (m+1)) aeY rfl HT.q2 (HD.q1.trans HT.q2) (λ i h1 h2=>se.keep (bI.trans (HB3.o.mono hws)) (ah _) (HD.q2 i h1 h2)) (HL2.o _ (bI.trans (HB3.o.mono hws))) (by first|(unfold maxLen;simp;omega)|(rw[HT.t2];unfold maxLen;omega)) (by first|(simp;omega)|(rw[HT.t2];omega)) HB3.o.size hws ?_;intro A8 c8 W4 k7 b7 q7 _;rw[HT.t2] at k7⊢;repeat go_step
        have hb:=HB3.o.trans b7;have kp:=I8 q7 HP3.o (abn HK3.o HP3.o cj);refine H9.o _ _ (kK.o _ hb) ?_;clear H9 K9 b7 q7;have HB4:=aG hb;have HK4:=aG k7;clear hb k7;have HP4:=aG kp;clear kp;refine abj (λ K9 H9=>?_);simp only[aW,aa,ae];repeat go_step
        refine H9.o _ _ (kK.o _ HB4.o) ?_;clear H9 K9;refine dF ?_;simp only[aW,aa,ae];have cp:=HP4.o.cell 0;have aaM:=HP4.o.free 0;have lp:=HP4.o.lt;repeat go_step
        go_meet;exact abH hws bI HB4.o HK4.o HP4.o hpl
    · as_aux_lemma=>
      refine abj (λ K9 H9=>?_);simp only[aW,aa,ae];repeat go_step
      obtain⟨pb,oU⟩:∃g,W0.heap.size=g:=⟨_,rfl⟩;have kp:Bk (W0.alloc (D #[G U 0 0] 38)) pb #[G U 0 0] 38:=au _ _ _ _ oU;have hb:=ay HB0.o (D #[G U 0 0] 38);have hpl:Z.heap.size<=pb:=by have :=HB0.o.size;omega
      rw[oU];refine H9.o _ _ (kK.o _ hb) ?_;clear H9 K9 oU;generalize W0.alloc (D #[G U 0 0] 38)=W1 at *;have HB1:=aG hb;clear hb;have HP1:=aG kp;clear kp;refine abj (λ K9 H9=>?_);simp only[aW,aa,ae];repeat go_step
      obtain⟨g0,hg0⟩:∃g,W1.heap.size=g:=⟨_,rfl⟩;have k0:cH se 48 (W1.alloc (D #[] 48)) Z.heap.size w.heap.size (G (O ⟨g0,0,U⟩) 0 0) []:=hg0▸ael W1 (by have :=HB1.o.size;omega);have hb:=ay HB1.o (D #[] 48);have kp:=HP1.o.alloc (D #[] 48);rw[hg0];refine H9.o _ _ (kK.o _ hb) ?_;clear H9 K9 hg0;generalize W1.alloc (D #[] 48)=W2 at *;have Xr:=aG hb;have HK2:=aG k0;clear hb k0;have HP2:=aG kp;clear kp;refine abj (λ K9 H9=>?_);simp only[aW,aa,ae];at_builtin
      refine en (T:=se) (base:=Z.heap.size) (B:=w.heap.size) (qs:=[]) (v:=G (O ⟨g0,0,U⟩) 0 0) rfl _ _ _ rfl 88 rq aV cj U0 rfl HK2.o (O ⟨aaD,ro,U⟩) m cap (rs.take m) afk rfl HT.q1 (HP.q1.trans HT.q1) (λ i h1 h2=>se.keep (bI.trans (Xr.o.mono hws)) (ah _) (HP.q2 i h1 h2)) (HL1.o _ (bI.trans (Xr.o.mono hws))) (by first|(unfold maxLen;simp;omega)|(rw[HT.t2];unfold maxLen;omega)) (by first|(simp;omega)|(rw[HT.t2];omega)) Xr.o.size hws ?_;intro A7 c7 W3 k7 b7 q7 _;simp only[dG,bX,eV] at k7⊢;repeat go_step
      have hb:=Xr.o.trans b7;have kp:=I8 q7 HP2.o (abn HK2.o HP2.o cj);refine H9.o _ _ (kK.o _ hb) ?_;clear H9 K9 b7 q7;have HB3:=aG hb;have HK3:=aG k7;clear hb k7;have HP3:=aG kp;clear kp;refine abj (λ K9 H9=>?_);simp only[aW,aa,ae];at_builtin
      refine en (T:=se) (base:=Z.heap.size) (B:=w.heap.size) (qs:=rs.take m) (v:=G A7 m c7) rfl _ _ _ rfl 88 rq aV cj U0 rfl HK3.o _ (rs.length - (m+1)) _ (rs.drop (m+1)) aeY rfl HT.q2 (HD.q1.trans HT.q2) (λ i h1 h2=>se.keep (bI.trans (HB3.o.mono hws)) (ah _) (HD.q2 i h1 h2)) (HL2.o _ (bI.trans (HB3.o.mono hws))) (by first|(unfold maxLen;simp;omega)|(rw[HT.t2];unfold maxLen;omega)) (by first|(simp;omega)|(rw[HT.t2];omega)) HB3.o.size hws ?_;intro A8 c8 W4 k7 b7 q7 _;rw[HT.t2] at k7⊢;repeat go_step
      have hb:=HB3.o.trans b7;have kp:=I8 q7 HP3.o (abn HK3.o HP3.o cj);refine H9.o _ _ (kK.o _ hb) ?_;clear H9 K9 b7 q7;have HB4:=aG hb;have HK4:=aG k7;clear hb k7;have HP4:=aG kp;clear kp;refine abj (λ K9 H9=>?_);simp only[aW,aa,ae];repeat go_step
      refine H9.o _ _ (kK.o _ HB4.o) ?_;clear H9 K9;refine dF ?_;simp only[aW,aa,ae];have cp:=HP4.o.cell 0;have aaM:=HP4.o.free 0;have lp:=HP4.o.lt;repeat go_step
      go_meet;exact abH hws bI HB4.o HK4.o HP4.o hpl
   case rest=>
   as_aux_lemma=>
   obtain⟨aaZ,hZ9⟩:∃aaZ,aaZ=wc:=⟨_,rfl⟩;rw[<-hZ9] at hcut⊢;obtain⟨pb,c9,A9,hv9,hpl,Zi,hE9,kY⟩:=hcut;first|subst hv9|(have hv':=hv9.symm;subst hv')
   clear hZ9;have hlen:(rs.eraseIdx m).length=rs.length - 1:=by rw[List.length_eraseIdx];simp[hml]
   rw[<-List.eraseIdx_eq_take_drop_succ] at hE9;rw[<-hlen] at Zi;have hVe:=adH m HV.o
   have hwf:ik aP f:=λ a ha=>by have h2:=cY.1 (show rC aP f=true from Wk.o) a (bG.2 ha);unfold r8 at h2;simpa using h2
   have OC:=adJ HX.q1 HH.q3 hwf HX.t1;have iF:il (cA (bc (rs.eraseIdx m)) aP) 10<=1099511627776:=bm (aeO adI) HCc.o;have Xt:∀r∈rs.eraseIdx m,Hu r:=λ r hr=>zJ HH.q1 r (adh r hr);generalize rs.eraseIdx m=es at *;have HES:=lQ hVe OC iF Xt hwf;clear hVe OC iF Xt hlen hwf;have hI:aaC w (O ⟨aaD,ro,U⟩) rs.length cap f aaZ/\St rs tb B1 B2 d1 d2 T Lv aaZ/\Bk aaZ pb #[G A9 es.length c9] 38/\ic se aaZ A9 es:=⟨HZ.q1.keep kY,HZ.q2.keep kY,Zi,hE9⟩;clear Zi hE9 kY hpl HZ HP HD HT HL1 HL2 hws kK HDr bI hcI hmc af2 ck lk c0 l0 HX;revert hI
   generalize aaZ=V;clear aaZ Z;rintro⟨v1,v2,v3,v4⟩;obtain⟨c0,l0⟩:=v3.cl0;have HV1:=fH v1 v2 v4;have aa1:=aG (YY (cap:=c9) v4 HES.q1 (HH.q2.below v1.low) HES.q3);clear v1 v2 v3 v4;go_upto_region 16 with(go_at_call 13;with_reducible refine aa1.o.mono ?_;rintro e w6 ⟨hb,D1,m1,e1,D2,m2,e2,er,rfl,he⟩;have H6:=fH (HV1.q1.keep hb) (HV1.q2.keep hb) he;clear hb he);obtain⟨aa2,hub⟩:∃z,w6.heap.size=z:=⟨_,rfl⟩;rw[hub];have hbl:=aj w6 (D #[G D1 m1 e1,G D2 m2 e2] 56);refine forget (λ Y=>aaC w (O ⟨aaD,ro,U⟩) rs.length cap f Y/\St rs tb B1 B2 d1 d2 T Lv Y/\Bk Y aa2 #[G D1 m1 e1,G D2 m2 e2] 56/\(er=3\/(er=0/\∃(T':List Nd) (Lv':List Dk),m1=T'.length/\m2=Lv'.length/\ic vH Y D1 (T'.map pA)/\ic Hm Y D2 Lv'/\mU (bc es) aP (iK es) T' Lv'))) ⟨H6.q1.keep hbl,H6.q2.keep hbl,au _ _ _ _ hub,?_⟩ ?_
   · rcases H6.t2 with h3|⟨h0,T',Lv',k1,k2,k3,k4,k5⟩
     · exact .inl h3
     · exact .inr ⟨h0,T',Lv',k1,k2,k3.keep hbl hbl.size,k4.keep hbl hbl.size,k5⟩
   clear hbl hub H6 aa1 HV1 c0 l0;clear w6 V;rintro Y ⟨hS,hT,hU,he⟩;rcases he with rfl|⟨rfl,T',Lv',rfl,rfl,hU1,hU2,hUT⟩
   · have HS:=aG hS
     clear hS hT hU;as_aux_lemma=>
     go_wp2_with fail;go_ret;exact⟨rfl,HS.o.low⟩
   have HU:=aG (show St es aa2 D1 D2 e1 e2 T' Lv' Y from⟨hU1,hU2,hU,hUT⟩);have HS:=dt hS hT;clear hS hT hU hU1 hU2 hUT;as_aux_lemma=>
   go_upto_region 18 with fail;obtain⟨al,tg,si,lim,price,fn,fd,tn,td,cn,cd,sn,sd,rn,rd,y,y2,Yv,hC2⟩:=aeh HES.q2;have HE:=aG (λ w'=>Y5 _ _ hC2 w');have CL1:=aG (VK (X:=Y) (c1:=d1) (c2:=d2) f _ _ (pC HH.q3) HS.t1.e1 HS.t1.e2 HS.t1.ok HV.o (zJ HH.q1) Yv (HH.q2.below HS.q1.low) HH.q3 HH.t3 HES.t4);obtain⟨ct,lt_⟩:=HS.t1.bk.cl0;obtain⟨c1,l1⟩:=HS.q1.f.cl0;have Yd:=aG hC2;clear Yv hC2;go_upto_region 19 with(go_at_call 15;with_reducible refine CL1.o.mono ?_;rintro e w7 ⟨rfl,hb⟩;have H7:=aG hb;clear hb);obtain⟨dk,hdk⟩:∃z,w7.heap.size=z:=⟨_,rfl⟩;rw[hdk];have Lg:=aj w7 (D #[.bool al,.bool tg,.bool si,I J lim,I J price,I J fn,I J fd,I J tn,I J td,I J cn,I J cd,I J sn,I J sd,I J rn,I J rd,I J y] 63);refine forget (λ V=>aaC w (O ⟨aaD,ro,U⟩) rs.length cap f V/\St es aa2 D1 D2 e1 e2 T' Lv' V/\Bk V dk #[.bool al,.bool tg,.bool si,I J lim,I J price,I J fn,I J fd,I J tn,I J td,I J cn,I J cd,I J sn,I J sd,I J rn,I J rd,I J y] 63/\w.heap.size<=dk) ⟨(HS.q1.keep H7.o).keep Lg,(HU.o.keep H7.o).keep Lg,au _ _ _ _ hdk,by have h1:=HS.q1.low.size;have h2:=H7.o.size;omega⟩ ?_;clear Lg hdk H7 CL1 ct lt_ c1 l1 HS HU;clear w7 Y;rintro V ⟨v1,v2,v3,v4⟩;have CL2:=aG (VK (X:=V) (c1:=e1) (c2:=e2) f _ _ (pC HH.q3) v2.e1 v2.e2 v2.ok HES.q1 HES.q4 Yd.o (HH.q2.below v1.low) HH.q3 HH.t3 HES.t4);obtain⟨ct,lt_⟩:=v2.bk.cl0;obtain⟨c1,l1⟩:=v1.f.cl0;have HV3:=fH v1 v3 v4;clear v1 v2 v3 v4;go_upto_region 20 with(go_at_call 15;with_reducible refine CL2.o.mono ?_;rintro e w8 ⟨rfl,hb⟩;have H8:=aG hb;clear hb);obtain⟨dj,hdj⟩:∃z,w8.heap.size=z:=⟨_,rfl⟩;rw[hdj];have Ad:=aj w8 (D #[.bool al,.bool tg,.bool si,I J lim,I J price,I J fn,I J fd,I J tn,I J td,I J cn,I J cd,I J sn,I J sd,I J rn,I J rd,I J y2] 63);refine forget (λ xg=>aZ w xg/\Bk xg dk #[.bool al,.bool tg,.bool si,I J lim,I J price,I J fn,I J fd,I J tn,I J td,I J cn,I J cd,I J sn,I J sd,I J rn,I J rd,I J y] 63/\Bk xg dj #[.bool al,.bool tg,.bool si,I J lim,I J price,I J fn,I J fd,I J tn,I J td,I J cn,I J cd,I J sn,I J sd,I J rn,I J rd,I J y2] 63/\w.heap.size<=dk/\dj≠dk) ⟨((HV3.q1.keep H8.o).keep Ad).low,(HV3.q2.below H8.o).below Ad,au _ _ _ _ hdj,HV3.t2,by have h1:=HV3.q2.lt;have h2:=H8.o.size;omega⟩ ?_
   clear Ad hdj H8 CL2 ct lt_ c1 l1 HV3;clear w8 V;rintro xg ⟨u1,u2,aa3,u4,aa4⟩;have ck:=u2.cell;have fk:=u2.free 15;have lk:=u2.lt;obtain⟨aa5,lj⟩:=aa3.cl0;go_upto_region 21 with fail;have pY:Only (λ g=>g=dk) xg (xg.setCell ⟨dk,15,U⟩ (I J y2)):=(Only.refl (λ g=>g=dk) xg).aS (p:=⟨dk,15,U⟩) (.inl rfl) _;refine forget (λ X=>aZ w X/\Bk X dk #[.bool al,.bool tg,.bool si,I J lim,I J price,I J fn,I J fd,I J tn,I J td,I J cn,I J cd,I J sn,I J sd,I J rn,I J rd,I J y2] 63/\Bk X dj #[.bool al,.bool tg,.bool si,I J lim,I J price,I J fn,I J fd,I J tn,I J td,I J cn,I J cd,I J sn,I J sd,I J rn,I J rd,I J y2] 63) ⟨u1.trans (pY.aK (λ g hg=>ar) u1.size),u2.aS 15 _,aa3.only pY aa4⟩ ?_;clear ck fk lk aa5 lj u1 u2 aa3 u4 aa4 pY;clear xg;rintro X ⟨x1,x2,x3⟩;obtain⟨ck,lk⟩:=x2.cl0;obtain⟨aa5,lj⟩:=x3.cl0;have Rh:=aG x1;have he:=HE.o;clear x1 x2 x3 HE;go_wp2_with fail;go_ret;exact⟨rfl,Rh.o⟩
 · as_aux_lemma=>
   have xY:=(ai.1 hra).1;have hbl:=(ai.1 kS).1;have ha1:¬(rs.length:Int)<=(a:Int):=ar;have hb1:¬(rs.length:Int)<=(b:Int):=ar;have ha2:¬(a:Int)<0:=ar;obtain⟨tg,si,lim,price,fn,fd,tn,td,cn,cd,sn,sd,rn,rd,d,r',hC,hdb,hd,dn2⟩:=adK kS ab5 rK;have HC:=aG hC;have HX:=lQ hra lY hha hd dn2;clear hC hra kS ab5 lY hha rK hd dn2;have CL:=aG (VK (X:=Z) (c1:=d1) (c2:=d2) g _ _ (pC Hg.q1) HZ.q2.e1 HZ.q2.e2 HZ.q2.ok HV.o (zJ HH.q1) HC.o (HH.q2.below HZ.q1.low) Hg.q1 Hg.t1 HX.q2);obtain⟨ct,lt_⟩:=HZ.q2.bk.cl0;go_upto_region 13 with(go_at_call 15;with_reducible refine CL.o.mono ?_;rintro e w7 ⟨rfl,hb⟩;have H7:=aG hb;clear hb);obtain⟨dk,hdk⟩:∃z,w7.heap.size=z:=⟨_,rfl⟩;rw[hdk];have Lg:=aj w7 (D #[.bool false,.bool tg,.bool si,I J lim,I J price,I J fn,I J fd,I J tn,I J td,I J cn,I J cd,I J sn,I J sd,I J rn,I J rd,I J (d:Int)] 63);refine forget (λ V=>aaC w A rs.length cap f V/\Bk V xk #[I J 3,I J (a:Int),I J (b:Int),I J (eO g 0),I J (eO g 1),I J (eO g 2),I J (eO g 3),I J (eO g 4),I J (eO g 5),I J (eO g 6),I J (eO g 7),I J (eO g 8),I J (eO g 9)] 72/\Bk V dk #[.bool false,.bool tg,.bool si,I J lim,I J price,I J fn,I J fd,I J tn,I J td,I J cn,I J cd,I J sn,I J sd,I J rn,I J rd,I J (d:Int)] 63) ⟨HZ.q1.keep (aq H7.o Lg),HZ.t2.below (aq H7.o Lg),au _ _ _ _ hdk⟩ ?_;clear Lg hdk H7 CL ct lt_ ck lk c0 l0 HZ HC;clear w7 Z;rintro V ⟨v1,v2,v3⟩;obtain⟨ck,lk⟩:=v2.cl0;obtain⟨cd_,aa6⟩:=v3.cl0;have c0:V.cell? ⟨w.heap.size,0,U⟩=O (G A rs.length cap):=v1.p.cell 0;have l0:=v1.p.lt;have hE:=HH.q1.keep v1.low v1.low.size;obtain⟨rb_,ro,kd1,nm1,AZ1,zs1,zc1,nu1,rn1,rd1,sn1,sd1,rfl,aga,Hk1,d0,-⟩:=kA hE (ai.1 HX.q4).1;obtain⟨rb2,ro2,Z9,nm2,AZ2,zs2,zc2,nu2,rn2,rd2,sn2,sd2,e2,ab5,Hk2,f0,f1,f2,f3,f4,f5,f6,f7,_,afO,afS,XQ,_,_⟩:=kA hE xY;cases e2
   have Js:=Hk1.o;rw[HX.q4] at Js;have Js:=aO Js;have vB:kd1=2:=by rw[<-HX.t4,Js]
   subst vB;have hk2:=Hk2.o;rw[HX.q1] at hk2;have hk2:=aO hk2;have hh2:=HX.q3;rw[hk2] at hh2;have Kq:zs2.length<=9223372036854775807:=by have h8:zs2.length<=zc2:=afO;unfold maxLen at afS;omega
   have abg:=aG (λ u=>VL (X:=ext V u) AZ2 zs2 zc2 g _ (pC Hg.q1) true Hg.q1 hh2 Kq (XQ.keep (aT V u) (aT V u).size) (kd:=Z9) (nm:=nm2) (num:=nu2) (rn:=rn2) (rd:=rd2) (sn:=sn2) (sd:=sd2));have hdl:=(ai.1 HX.q4).1;have dn1:(0:Int)<=(d:Int):=ar;have dn2:(d:Int)<=(b:Int):=ar;have dn3:(d:Int)<(rs.length:Int):=ar;have ha3:(a:Int)<(rs.length:Int):=ar;have HV1:=aG v1;clear v1 v2 v3 hE Hk1 Hk2 Js hk2 hh2 afO afS XQ HX;refine bJ V aV aV ?_;repeat(go_big_quiet_step ((go_at_call 11;with_reducible exact iL (abg.o _))))
   refine wpQuiet_nil (λ v=>?_);go_wp2_with fail;go_ret;exact⟨rfl,Below.jN HV1.o.low _⟩
end
end Go.Proofs.YtbcpcneadjcmlaaGreatDoor
