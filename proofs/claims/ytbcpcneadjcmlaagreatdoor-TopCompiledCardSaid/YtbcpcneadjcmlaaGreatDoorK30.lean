/- TopCompiled: for every plan, rules and facts that the law takes, it returns true, and what came in reads as it did; the listed tables are those of the program (the tied card). Conditions: none but those of the given statement. -/
import Derived.Test.YtbcpcneadjcmlaaGreatDoorK29
namespace Go.Proofs.YtbcpcneadjcmlaaGreatDoor
open Go.Proofs.Tryz
set_option maxRecDepth 100000
set_option maxHeartbeats 16000000
set_option linter.unusedVariables false
set_option linter.unusedSimpArgs false
open Value renaming int→I,slice→G
open IntKind renaming i64→J
open Obj renaming cells→D
open Option renaming some→O,none→U
open Go renaming Value→R,World→agb
section
open Go.RowKit Go.Maps
attribute [local go_sem] aQ aC bW
theorem AP{lh:List Le}(h:rk lh=true):lh.length<=10/\∀l∈lh,l.2.2.1.length+l.2.2.2.1.length<=50:=by unfold rk at h;rw[aD,decide_eq_true_eq,cY] at h;refine⟨ar,λ l hl=>?_⟩;have :=h.2 l hl;unfold Ni at this;have :=of_decide_eq_true this;omega
theorem AQ{its:List It}(h:mV its=true):its.length<=6/\∀x∈its,x.2.2.1.length<=3/\∀ts∈x.2.2.1,ts.length<=3:=by unfold mV at h;rw[aD,decide_eq_true_eq,cY] at h;refine⟨h.2,λ x hx=>?_⟩;have :=h.1 x hx;unfold rp at this;rw[aD,decide_eq_true_eq,cY] at this;exact⟨this.1,λ ts VY=>of_decide_eq_true (this.2 ts VY)⟩
section
variable{A AH:dB}{its:List It}{lh:List Le}{cap ch:Nat}{hn:BA0}{x y:Int}{f:Fc}{w:agb}
theorem zR(h:ic Ji w AH lh)(r:Bool)(hr:rk lh=r):∀X,aZ w X->Calls prog 6 #[.agg #[.string hn,I J x,I J y,G AH lh.length ch]] X (jL (.bool r) X):=λ X hX=>IC hn x y AH lh ch X w.heap.size (h.keep hX (ah _)) hX.size r hr
theorem Gz(h:ic Fu w A its)(hn:its.length<=9223372036854775807)(r:Bool)(hr:mV its=r):∀X,aZ w X->Calls prog 7 #[.agg #[G A its.length cap]] X (jL (.bool r) X):=λ X hX=>by have :=ID A its cap X w.heap.size (h.keep hX (ah _)) hX.size hn;rwa [hr] at this
theorem VU(h:ic Fu w A its)(hh:ic Ji w AH lh)(hs:mV its=true)(hsm:rk lh=true)(u6:its.length<=cap)(hcm:cap<=9223372036854775807)(L:Nm)(hL:(kX lh,kI lh)=L):∀X,aZ w X->Calls prog 9 #[.agg #[G A its.length cap],.agg #[.string hn,I J x,I J y,G AH lh.length ch]] X (N1 X L its):=λ X hX=>by
 obtain⟨k1,k2⟩:=AQ hs;obtain⟨k3,k4⟩:=AP hsm
 exact Ao A its cap hn x y AH lh ch X w.heap.size (h.keep hX (ah _)) (hh.keep hX (ah _)) hX.size ar u6 hcm (λ z hz=>by obtain⟨a,b⟩:=k2 z hz;exact⟨ar,λ l hl=>by have :=b l hl;omega⟩) k3 k4 L hL
end
theorem VV(AW:dB)(ws:List (List Ts))(cw:Nat)(AH:dB)(lh:List Le)(ch:Nat)(f:Fc)(L:Nm)(r:Bool){X:agb}(hW:ic (eF Fs) X AW ws)(h:ic Ji X AH lh)(hl:ws.length<=9223372036854775807)(hs:rk lh=true)(hL:(kX lh,kI lh)=L)(hf:f.length=10)(hT:∀l∈ws,∀t∈l,(eI L t).1=0)(hr:IA L f ws=r){kd iN rn rd sn sd Nc x y:Int}{inm hn:BA0}:
 Calls prog 12 #[.agg #[I J kd,.string inm,G AW ws.length cw,I J iN,I J rn,I J rd,I J sn,I J sd,I J Nc],.agg #[.string hn,I J x,I J y,G AH lh.length ch],.agg #[I J (eO f 0),I J (eO f 1),I J (eO f 2),I J (eO f 3),I J (eO f 4),I J (eO f 5),I J (eO f 6),I J (eO f 7),I J (eO f 8),I J (eO f 9)]] X (jL (.bool r) X):=by
 obtain⟨k3,k4⟩:=AP hs;have :=K7 kd inm AW ws cw iN rn rd sn sd Nc hn x y AH lh ch f X X.heap.size hW h (ah _) hl k3 k4 L hL hf hT r hr;have e:fcR f=#[I J (eO f 0),I J (eO f 1),I J (eO f 2),I J (eO f 3),I J (eO f 4),I J (eO f 5),I J (eO f 6),I J (eO f 7),I J (eO f 8),I J (eO f 9)]:=pC hf;rwa [e] at this
theorem VW{f:Fc}(h:yH f=true):rC mH f=true:=h
theorem EC{L:Nm}:∀{l:List Ts},kP L l=U->∀t∈l,(eI L t).1=0
 |[],_,t,ht=>by cases ht
 |u::l,h,t,ht=>by
  unfold kP at h;by_cases h0:(eI L u).1=0
  · rw[if_pos h0] at h
    rcases aR.1 ht with rfl|ht
    · exact h0
    · exact EC h t ht
  · rw[if_neg h0] at h;cases h
theorem IE(A:dB)(its:List It)(cap:Nat)(hn:BA0)(x y:Int)(AH:dB)(lh:List Le)(ch:Nat)(f:Fc)(w:agb)(h:ic Fu w A its)(hh:ic Ji w AH lh)(u6:its.length<=cap)(hcm:cap<=9223372036854775807)(hlh:lh.length<=9223372036854775807)(mW:lh.length<=ch)(asz:ch<=9223372036854775807)(hf:f.length=10)(qd:∀x∈f,fits x)(ht:nu w):
 Calls prog 3 #[.agg #[.string hn,I J x,I J y,G AH lh.length ch],.agg #[G A its.length cap],.agg (iw f)] w (jL (.bool true) w):=by
 rw[pC hf];have HH:=lQ h hh ht hf qd;clear h hh ht hf qd;go_enter func3,ntmps3;go_upto_region 2 with(go_at_call 5;refine(IB _ (HH.q3.below dE)).mono ?_;rintro e w1 ⟨rfl,hb⟩;have HB:=aG hb;clear hb);refine forget (λ W=>aZ w W/\Bk W w.heap.size #[.string hn,I J x,I J y,G AH lh.length ch] 26/\Bk W (w.heap.size+1) #[G A its.length cap] 29/\Bk W (w.heap.size+1+1) #[I J (eO f 0),I J (eO f 1),I J (eO f 2),I J (eO f 3),I J (eO f 4),I J (eO f 5),I J (eO f 6),I J (eO f 7),I J (eO f 8),I J (eO f 9)] 31) ⟨aq (ay (ay (aj _ _) _) _) HB.o,(((Bk.new w _ _).alloc _).alloc _).below HB.o,((GF w _ _ _).alloc _).below HB.o,(au _ _ _ _ bY).below HB.o⟩ ?_;clear HB;rintro W ⟨hw,b0,b1,b2⟩;have c0:=b0.cell;have c1:W.cell? ⟨w.heap.size+1,0,U⟩=O (G A its.length cap):=b1.cell 0;have c2:=b2.cell;have l0:=b0.lt;have l1:=b1.lt;have l2:=b2.lt;have HW:=iM hw b0 b1 b2;clear hw b0 b1 b2;obtain⟨q1,N3⟩:∃v,rk lh=v:=⟨_,rfl⟩;obtain⟨q2,Ti⟩:∃v,mV its=v:=⟨_,rfl⟩;obtain⟨q3,N4⟩:∃v,yH f=v:=⟨_,rfl⟩;have HQ1:=aG N3;have D8:=aG Ti;have Wk:=aG N4;have lY:its.length<=9223372036854775807:=ar;clear N3 Ti N4;cases q1
 · go_wp2_with (go_at_call 6;refine(zR HH.q2 _ HQ1.o _ HW.q1).mono ?_;rintro e w2 ⟨rfl,hb⟩)
   go_ret;exact⟨rfl,aq HW.q1 hb⟩
 cases q2
 · go_wp2_with (first
    |(go_at_call 6;refine(zR HH.q2 _ HQ1.o _ HW.q1).mono ?_;rintro e w2 ⟨rfl,hb⟩;have c21:=(HW.q3.below hb).cell 0;have l21:=(HW.q3.below hb).lt)
    |(go_at_call 7;refine(Gz HH.q1 lY _ D8.o _ (aq HW.q1 hb)).mono ?_;rintro e w3 ⟨rfl,hb3⟩))
   go_ret;exact⟨rfl,aq HW.q1 (aq hb hb3)⟩
 go_upto_if 28 with(first
  |(go_at_call 6;refine(zR HH.q2 _ HQ1.o _ HW.q1).mono ?_;rintro e w2 ⟨rfl,hb⟩;have c21:=(HW.q3.below hb).cell 0;have l21:=(HW.q3.below hb).lt)
  |(go_at_call 7;refine(Gz HH.q1 lY _ D8.o _ (aq HW.q1 hb)).mono ?_;rintro e w3 ⟨rfl,hb3⟩;have c32:=((HW.t3.below hb).below hb3).cell;have l32:=((HW.t3.below hb).below hb3).lt)
  |(go_at_call 8;refine(Ng f _ (pC HH.q4) HH.q4 _ Wk.o _).mono ?_;rintro e w4 ⟨rfl,hb4⟩))
 have Mi:aZ W w4:=aq (aq hb hb3) hb4;cases q3
 · go_wp2_with fail
   go_ret;exact⟨rfl,aq HW.q1 Mi⟩
 obtain⟨L,hL⟩:∃L,(kX lh,kI lh)=L:=⟨_,rfl⟩;have HL:=aG hL;obtain⟨ps,hps⟩:∃ps,jx L its=ps:=⟨_,rfl⟩;obtain⟨fs,hfs⟩:∃fs,je L its=fs:=⟨_,rfl⟩;have HP:=dt hps hfs;clear hL hps hfs;refine forget (λ X=>aZ w X/\Bk X w.heap.size #[.string hn,I J x,I J y,G AH lh.length ch] 26/\Bk X (w.heap.size+1) #[G A its.length cap] 29/\Bk X (w.heap.size+1+1) #[I J (eO f 0),I J (eO f 1),I J (eO f 2),I J (eO f 3),I J (eO f 4),I J (eO f 5),I J (eO f 6),I J (eO f 7),I J (eO f 8),I J (eO f 9)] 31) ⟨aq HW.q1 Mi,HW.q2.below Mi,HW.q3.below Mi,HW.t3.below Mi⟩ ?_;clear Mi hb hb3 hb4 c21 l21 c32 l32 c0 c1 c2 l0 l1 l2 HW;clear w2 w3 w4;clear W;rintro W ⟨hw,b0,b1,b2⟩;have c0:=b0.cell;have c1:W.cell? ⟨w.heap.size+1,0,U⟩=O (G A its.length cap):=b1.cell 0;have l0:=b0.lt;have l1:=b1.lt;have HW:=iM hw b0 b1 b2;clear hw b0 b1 b2;go_upto_region 5 with(go_at_call 9;refine(VU HH.q1 HH.q2 D8.o HQ1.o u6 hcm L HL.o _ HW.q1).mono ?_;rintro e w' ⟨hbC,A1,c1',A2,c2',he,hr,hfa⟩;rw[HP.q1,HP.t1] at he;rw[HP.q1] at hr;subst he;have HC:=dt hbC hr;clear hbC hr hfa);refine forget (λ X=>aZ w X/\Bk X w.heap.size #[.string hn,I J x,I J y,G AH lh.length ch] 26/\Bk X (w.heap.size+1) #[G A its.length cap] 29/\Bk X (w.heap.size+1+1) #[I J (eO f 0),I J (eO f 1),I J (eO f 2),I J (eO f 3),I J (eO f 4),I J (eO f 5),I J (eO f 6),I J (eO f 7),I J (eO f 8),I J (eO f 9)] 31/\Bk X w'.heap.size #[G A1 ps.length c1'] 38/\ic se X A1 ps) ⟨?_,?_,?_,?_,?_,?_⟩ ?_
 · exact ay (aq HW.q1 HC.q1) _
 · exact(HW.q2.below HC.q1).alloc _
 · exact(HW.q3.below HC.q1).alloc _
 · exact(HW.t3.below HC.q1).alloc _
 · exact Bk.new _ _ _
 · exact HC.t1.keep (aj _ _) bY
 clear HC c0 c1 l0 l1 HW;generalize w'.heap.size=pb at *;clear w';clear W;rintro X ⟨hX,b0,b1,b2,bp,hr⟩;have c1:X.cell? ⟨w.heap.size+1,0,U⟩=O (G A its.length cap):=b1.cell 0;have cp:X.cell? ⟨pb,0,U⟩=O (G A1 ps.length c1'):=bp.cell 0;have l1:=b1.lt;have lp:=bp.lt;have HX:=uF hX b0 b1 b2 bp hr;clear hX b0 b1 b2 bp hr;by_cases hnil:fs=[]
 · have wY:fs.length=0:=by rw[hnil];rfl
   have agS:¬0<(fs.length:Int):=ar;have alp:decide (0<(fs.length:Int))=false:=decide_eq_false agS;have hf0:je L its=[]:=HP.t1.trans hnil;have hpl:ps.length=its.length:=by rw[<-HP.q1];exact zP hf0
   have hval:jg ps=true:=by rw[<-HP.q1];exact K8 hf0
   have N3:((ps.length:Int)==(its.length:Int))=true:=by simpa using(show(ps.length:Int)=its.length from ar)
   have Ti:((ps.length:Int) !=(its.length:Int))=false:=by simpa using(show(ps.length:Int)=its.length from ar)
   have alq:ps.length<=9223372036854775807:=ar;have Hpl:=fH hpl hf0 hval;clear hnil wY hpl hf0 hval;go_upto_region 9 with(go_at_call 10;refine(uT A1 ps c1' ps.length _ X.heap.size HX.t5 (ah _) rfl alq).mono ?_;rintro e X2 ⟨he,hb⟩;rw[Hpl.t2] at he;subst he;have HB:=aG hb;clear hb);refine forget (λ Y=>aZ X Y) HB.o ?_;clear HB c1 cp l1 lp N3 Ti agS alp;clear X2;intro Y0 hY0;have HY0:=aG hY0;clear hY0;go_upto_region 10 with fail;go_loopw [10] (λ i wr=>∃(k:Nat),k<=ps.length/\i=I J k/\aZ X wr) (λ i _=>ps.length - (intOf i).toNat)
   case atStart=>exact⟨0,ar,rfl,HY0.o⟩
   case round=>
    obtain⟨k,hk,rfl,hwr⟩:=hrel;generalize wr=wA at *;have cp:wA.cell? ⟨pb,0,U⟩=O (G A1 ps.length c1'):=(HX.q5.below hwr).cell 0;have lp:=(HX.q5.below hwr).lt;by_cases hlt:k<ps.length
    · have Ny:k<its.length:=by have :=Hpl.q1;omega
      obtain⟨b,off,kd,nm,AZ,zs,zc,num,rn,rd,sn,sd,rfl,hb,Hk,d0,d1,d2,d3,d4,d5,d6,d7,_,T7,V7,XQ,_,_⟩:=kA (HX.t5.keep hwr hwr.size) hlt;obtain⟨ib,io,ikd,inm,AW,ws,cw,iN,irn,ird,isn,isd,Nc,rfl,hib,Hik,i0,i1,i2,i3,i4,i5,i6,i7,i8,ig1,ig2,ig3,if1,if2,if3,if4,if5,if6,if7,ig4⟩:=xN (HH.q1.keep (aq HX.q1 hwr) (aq HX.q1 hwr).size) Ny;obtain⟨hra,mP,_,_⟩:=Ex (L:=L) (l:=its) Hpl.q2 Hik.o;rw[HP.q1,Hk.o] at hra;have kq:(k:Int)<(ps.length:Int):=ar;have asF:(k:Int)<(its.length:Int):=ar;unfold vx at hra;simp only[cQ,Prod.mk.injEq] at hra;obtain⟨rfl,rfl,hzs,rfl,⟨rfl,rfl⟩,rfl,rfl⟩:=hra;have acM:=Q4 (f:=f) mP (VW Wk.o);rw[<-hzs] at acM;obtain⟨mv,hmv⟩:∃v,IA L f ws=v:=⟨_,rfl⟩;have hT:∀l∈ws,∀t∈l,(eI L t).1=0:=λ l hl=>EC (zt mP l hl);have HM:=uF (acM.trans hmv) hmv XQ hwr ig3.o hT;have hzl:zs.length<=9223372036854775807:=by have h8:zs.length<=zc:=T7;unfold maxLen at V7;omega
      have c0:=(HX.q2.below hwr).cell;have l0:=(HX.q2.below hwr).lt;have c1:wA.cell? ⟨w.heap.size+1,0,U⟩=O (G (O ⟨ib,io,U⟩) its.length cap):=(HX.q3.below hwr).cell 0;have l1:=(HX.q3.below hwr).lt;have c2:=(HX.q4.below hwr).cell;have l2:=(HX.q4.below hwr).lt;clear acM hmv hzs mP XQ hwr ig3 ig4 Hk Hik T7 V7 hT;go_upto_region 12 with(fail);refine bJ wA aV aV ?_
      repeat(go_big_quiet_step ((first
       |(go_at_call 11;exact iL (VL AZ zs zc f _ (pC HH.q4) mv HH.q4 HM.q1 hzl (HM.q3.keep (aT wA _) (aT wA _).size)))
       |(go_at_call 12;exact iL (VV AW ws cw AH lh ch f L mv (HM.q5.keep (aT wA _) (aT wA _).size) (HH.q2.keep (Below.jN (aq HX.q1 HM.q4) _) (Below.jN (aq HX.q1 HM.q4) _).size) ig2 HQ1.o HL.o HH.q4 HM.t5 HM.q2)))))
      refine wpQuiet_nil (λ v=>?_);cases mv
      all_goals
       go_wp2_with fail;go_roundw
       case rel=>exact⟨k+1,ar,gC,Below.jN HM.q4 _⟩
       case measure=>simp[intOf];omega
    · obtain rfl:k=ps.length:=ar
      have HR:=aG hwr
      have iF:il (cA (bc ps) aP) 10<=1099511627776:=by rw[<-HP.q1];obtain⟨k1,k2⟩:=AQ D8.o;exact Nn (Q0 k1 k2)
      have O1:∀r∈ps,Hu r:=zJ HX.t5;have HC:=dt iF O1;clear iF O1 hwr;go_upto_region 14 with fail;go_upto_region 15 with(go_at_call 13;refine(YY (cap:=c1') (HX.t5.keep HR.o HR.o.size) Hpl.t2 (HH.q3.below (aq HX.q1 HR.o)) HC.q1).mono ?_;rintro e X3 ⟨hb,B1,n1,d1,B2,n2,d2,er,rfl,he⟩;have HB:=dt (HR.o.trans (hb.mono HR.o.size)) he;clear hb he);obtain⟨tb,uG⟩:∃z,X3.heap.size=z:=⟨_,rfl⟩;rw[uG];have hbl:=aj X3 (D #[G B1 n1 d1,G B2 n2 d2] 56);refine forget (λ Y=>aZ X Y/\Bk Y tb #[G B1 n1 d1,G B2 n2 d2] 56/\(er=3\/(er=0/\∃(T:List Nd) (Lv:List Dk),n1=T.length/\n2=Lv.length/\ic vH Y B1 (T.map pA)/\ic Hm Y B2 Lv/\mU (bc ps) aP (iK ps) T Lv))) ⟨HB.q1.trans (hbl.mono HB.q1.size),au _ _ _ _ uG,?_⟩ ?_
      · rcases HB.t1 with h3|⟨h0,T,Lv,k1,k2,k3,k4,k5⟩
        · exact .inl h3
        · exact .inr ⟨h0,T,Lv,k1,k2,k3.keep hbl hbl.size,k4.keep hbl hbl.size,k5⟩
      clear hbl uG HB cp lp;clear X3;rintro Y ⟨hY,bt,he⟩;rcases he with rfl|⟨rfl,T,Lv,rfl,rfl,hE1,ZC,hT⟩
      · have HY:=aG hY
        clear hY bt;as_aux_lemma=>
        go_wp2_with fail;go_ret;exact⟨rfl,aq HX.q1 HY.o⟩
      · have ct:=bt.cell
        have lt_:=bt.lt;have cp:Y.cell? ⟨pb,0,U⟩=O (G A1 ps.length c1'):=(HX.q5.below hY).cell 0;have lp:=(HX.q5.below hY).lt;have HY:=lQ hY bt hE1 ZC hT;clear hY bt hE1 ZC hT;as_aux_lemma=>
        go_upto_region 18 with(go_at_call 14;refine(Y4 (c:=c1') (c1:=d1) (c2:=d2) (HX.t5.keep HY.q1 HY.q1.size) Hpl.t2 HY.t4 HY.q3 HY.q4 (HH.q3.below (aq HX.q1 HY.q1)) HC.q1).mono ?_;rintro e X4 ⟨rfl,hb⟩;have HB:=aG hb;clear hb);clear ct lt_ cp lp;refine forget (λ Z=>aZ Y Z) (ay HB.o _) ?_;clear HB;intro Z hZ;have bt:=HY.q2.below hZ;have bp:=HX.q5.below (aq HY.q1 hZ);have bf:=HX.q4.below (aq HY.q1 hZ);obtain⟨ct,lt_⟩:=bt.cl0;have cp:Z.cell? ⟨pb,0,U⟩=O (G A1 ps.length c1'):=bp.cell 0;have lp:=bp.lt;obtain⟨cf,lf⟩:=bf.cl0;obtain⟨C,hC⟩:∃C,vG (dR f ps ps.length)=C:=⟨_,rfl⟩;have heq:=Y5 (dR f ps ps.length) C hC;have HZ:=dt hZ hC;clear hZ bt bp bf hC;have CL:=aG (λ u=>VK (c1:=d1) (c2:=d2) (X:=ext Z u) f _ C (pC HH.q4) (HY.q3.keep (Below.jN HZ.q1 u) (Below.jN HZ.q1 u).size) (HY.q4.keep (Below.jN HZ.q1 u) (Below.jN HZ.q1 u).size) HY.t4 Hpl.t2 HC.t1 HZ.t1 (HH.q3.below (Below.jN (aq HX.q1 (aq HY.q1 HZ.q1)) u)) HH.q4 HH.t4 ((QU f).1 Wk.o));have CD:=aG (λ u=>YZ (cap:=c1') (X:=ext Z u) f _ C (pC HH.q4) (HX.t5.keep (Below.jN (aq HY.q1 HZ.q1) u) (Below.jN (aq HY.q1 HZ.q1) u).size) Hpl.t2 HZ.t1 HH.q4);refine bJ Z aV aV ?_;repeat(go_big_quiet_step ((first|(go_at_call 15;exact iL (CL.o _))|(go_at_call 16;exact iL (CD.o _)))))
        refine wpQuiet_nil (λ v=>?_);go_wp2_with fail;go_ret;exact⟨rfl,Below.jN (aq HX.q1 (aq HY.q1 HZ.q1)) _⟩
 · have zZ:0<(fs.length:Int):=by
    have :fs.length≠0:=λ h=>hnil (lI.1 h);omega
   have asG:decide (0<(fs.length:Int))=true:=decide_eq_true zZ;clear hnil;go_wp2_with fail;go_ret;exact⟨rfl,HX.q1⟩
end
section
open Go.RowKit Go.ChangeShapes Go.WideShapes Go.ChangeAt
theorem wV(os:Os)(started:os.Started)(H:Type)(enc:TypeId×R->H):
 ReturnsInHanded {} Tryz.checked os 3 .any (λ w args=>(Rows.topCompiledSpec.pre enc prog Tryz.f3 [] false w args/\laidMetH prog Rows.topCompiledRow.laid w)/\sizedMet enc prog Tryz.f3 (OpenSpec.ofChange Rows.topCompiledSpec) false w args)
  (Rows.topCompiledSpec.post enc prog Tryz.f3 false true false false):=by
 refine GL (C:=Tryz.checked) (laid:=Rows.topCompiledRow.laid) own started aV func3 rfl (λ ds hds=>?_) (tb:=4) aV dW laidOut (λ t ht=>?_)
  (ChangeSpec.witness_shaped (enc:=enc) (C:=Tryz.checked) (os:=os) (X:=λ w _=>laidMetH prog Rows.topCompiledRow.laid w) false (World.laidAll prog os Rows.topCompiledRow.laid)
   #[.agg #[.string ⟨#[]⟩,I J 0,I J 0,G U 0 0],.agg #[G U 0 0],.agg #[I J 0,I J 0,I J 0,I J 0,I J 0,I J 0,I J 0,I J 0,I J 0,I J 0]] 8 (World.laidAll_os _ _ _)
   (World.shaped_of_ZipB aV aV) aV aV aV
   (by rw[MakeChecks.laidMetH_plain _ _ _ aV];exact laidMet_laidAll _ aV aV)) ?_
 · rw[params3] at hds
   match ds,hds with
   |[_,_,_],_=>rfl
 · have :=cY.1 (show(Tryz.f3.params.toList.all λ t=>prog.readableRec t&&decide (t<prog.types.size))=true from aV) t ht
   simp only[aD,decide_eq_true_eq] at this;exact this
 · intro W args hL g
   rw[params3] at g;obtain⟨v0,q0,e0,g0,h0⟩:=g.cons_inv;obtain⟨v1,q1,rfl,g1,h1⟩:=h0.cons_inv;obtain⟨v2,q2,rfl,g2,h2⟩:=h1.cons_inv;obtain rfl:=h2.WE;obtain rfl:args=#[v0,v1,v2]:=by cases args;simp_all
   obtain⟨c0,y0,rfl,r0⟩:=g0.agg underlying26 WJ;obtain⟨c1,y1,rfl,r1⟩:=g1.agg underlying29 LF;obtain⟨c2,y2,rfl,r2⟩:=g2.got.arr iu WM;obtain⟨hn,a,b,AH,ch,e1,b4,b5,b6,b7,b8⟩:=NJ r0;obtain⟨A,cap,e2,b1,b2,b3⟩:=Jk r1;obtain⟨e3,b9,Wl⟩:=aam r2;rw[e1,e2,e3];exact IE A y1 cap hn a b AH y0.2.2 ch y2 W b3 b7 b1 b2 b4 b5 b6 b9 Wl (GK hL)
theorem BS:Rows.TopCompiledSaid:=
 OpenClaim.holds_of_wide 3 Tryz.f3 rfl rfl rfl rfl rfl rfl rfl ⟨rfl,rfl,rfl,rfl,rfl⟩ rfl rfl rfl rfl rfl xO func3 wj yT yU
  (λ os started H enc _=>wV os started H enc)
theorem topCompiled_holds:Rows.TopCompiledCardSaid:=
 Claim7.holds_tied_plain_at .later [] [.data,.data,.data,.sentinel,.sentinel] true (true, "eec3f6f7081aab3cc15648c2ff774a920d1f630e419a5ac8df30d41de8e4eb2e") true BS (λ _ h=>by cases h) aV (λ _ h=>by cases h) topCompiled_row_tie rfl ⟨rfl,rfl⟩ aV rfl
  (λ f fn hf hfn=>by
   obtain rfl:f=3:=aO ((show prog.funcNamed "foyer/foyertop.TopCompiled" =O 3 from aV).symm.trans hf) |>.symm
   obtain rfl:fn=Tryz.f3:=(aO (func3.symm.trans hfn)).symm
   exact⟨aV,λ j t ht=>by
    rw[params3] at ht;have hm:t∈ [26,29,31]:=by simpa using Array.mem_of_getElem? ht
    have hall:([26,29,31].all λ u=>!prog.wantsStandIn u)=true:=aV;exact(show prog.wantsStandIn t=false by simpa using cY.1 hall t hm)⟩)
  aV
end
end Go.Proofs.YtbcpcneadjcmlaaGreatDoor
