import Derived.Test.YtbcpcneadjcmlaaGreatDoorK13
namespace Go.Proofs.YtbcpcneadjcmlaaGreatDoor
open Go.Proofs.Tryz
set_option maxRecDepth 100000
set_option maxHeartbeats 16000000
set_option linter.unusedVariables false
set_option linter.unusedSimpArgs false
open Value renaming int→I,slice→G,pointer→M
open IntKind renaming i64→J
open Obj renaming cells→D
open Option renaming some→O,none→U
open Go renaming World→agb
section
open Go.RowKit
attribute [local go_sem] aQ aC bW
structure Head(w W:agb)(A:dB)(n cap:Nat)(f:Fc):Prop where
 low:aZ w W
 ZE:Bk W w.heap.size #[G A n cap] 38
 fac:Bk W (w.heap.size+1) (iw f) 31
 res:Bk W (w.heap.size+2) (kF false false false 0 0 0 0 0 0 0 0 0 0 0 0 0) 63
 jud:Bk W (w.heap.size+4) (Mk Dz) 139
 var:Bk W (w.heap.size+5) #[M (O ⟨w.heap.size+4,0,U⟩)] 137
theorem pO(A:dB)(rs:List Rl)(cap n:Nat)(f:Fc)(w:agb)(B:Nat)(h:cG se w B A rs)(hB:B<=w.heap.size)(hn:rs.length=n)(hl:n<=1000)(hf:f.length=10):
 Calls prog 16 #[.agg #[G A n cap],.agg (iw f)] w (jL (.agg (vG (dR f rs n))) w):=by
 subst hn;have HH:=aG h;have HF:=aG hf;have qf:= @run_makeMap prog;clear h hf;go_enter func16,ntmps16;go_upto_region 3 with(fail);refine forget (λ W=>Head w W A rs.length cap f/\W.heap.size=w.heap.size+6) ⟨⟨dE,?_,?_,?_,?_,?_⟩,bY⟩ ?_
 · exact(((((Bk.new w _ _).alloc _).alloc _).alloc _).alloc _).alloc _
 · exact(((((au _ _ _ _ bY)).alloc _).alloc _).alloc _).alloc _
 · exact((((au _ _ _ _ bY)).alloc _).alloc _).alloc _
 · exact(au _ _ _ _ bY).alloc _
 · exact au _ _ _ _ bY
 rintro W0 ⟨hh,hsz⟩;have Hsz:=aG hsz;have hm:eh (W0.alloc (.map #[] 0)) (w.heap.size+6) []:=by have :=eh.new W0;rwa [hsz] at this
 have Bb:Bk (W0.alloc (.map #[] 0)) (w.heap.size+5) #[M (O ⟨w.heap.size+4,0,U⟩)] 137:=hh.var.alloc _;have HV:Hid (∀w',Only (λ b=>b=w.heap.size+6) (W0.alloc (.map #[] 0)) w'->w'.cell? ⟨w.heap.size+5,0,U⟩=O (M (O ⟨w.heap.size+4,0,U⟩))/\w.heap.size+5<w'.heap.size):=aG λ w' ho=>⟨(Bb.only ho ar).cell 0,(Bb.only ho ar).lt⟩;have ho:Only (λ b=>b=w.heap.size+6) (W0.alloc (.map #[] 0)) (W0.alloc (.map #[] 0)):=Only.refl _ _;have cv:=(HV.o _ ho).1;have lv:=(HV.o _ ho).2;have HD:=aG hh;clear Bb hh;go_cut [7] (λ v X=>v=.map (O (w.heap.size+6))/\Head w X A rs.length cap f/\eh X (w.heap.size+6) (kG (w.heap.size+4) (w.heap.size+5)))
 case first =>go_wp2_with (refine gy rfl _ _ _ _ rfl 3 140 gb aJ rfl (by assumption) _ rfl rfl _ rfl ?_;intro w9 J0 iO;replace ho:=ho.trans iO;replace hm:=J0;replace cv:=(HV.o _ ho).1;replace lv:=(HV.o _ ho).2;clear J0 iO);go_meet;have h0:=HD.o;have hz:=Hsz.o;have bI:aZ w (W0.alloc (.map #[] 0)):=ay h0.low _;exact⟨rfl,⟨bI.trans (ho.aK (λ b hb=>ar) bI.size),(h0.ZE.alloc _).only ho ar,(h0.fac.alloc _).only ho ar,(h0.res.alloc _).only ho ar,(h0.jud.alloc _).only ho ar,(h0.var.alloc _).only ho ar⟩,hm⟩
 case rest=>
 obtain⟨W,hW9⟩:∃W,W=wc:=⟨_,rfl⟩;rw[<-hW9] at hcut⊢;obtain⟨rfl,hh,J0⟩:=hcut;clear hW9 hm ho cv lv HV HD Hsz hsz;have hm:=J0;clear J0;have hBg:B<=w.heap.size:=hB;have c0:W.cell? ⟨w.heap.size,0,U⟩=O (G A rs.length cap):=hh.ZE.cell 0;have l0:=hh.ZE.lt;have HD:=dt hh hm;have HE:=aG (HH.o.keep (hh.low.mono hBg) (ah _));have lmW:=hm.lt;clear hh hm HH qf;go_wp2_with fail;go_loopw [37] (λ i wr=>∃(k:Nat),k<=rs.length/\i=I J k/\Bk wr (w.heap.size+4) (Mk (dR f rs k)) 139/\Only (λ b=>b=w.heap.size+4) W wr) (λ i _=>rs.length - (intOf i).toNat)
 case atStart=>exact⟨0,ar,rfl,HD.q1.jud,Only.refl _ _⟩
 case round=>
  obtain⟨k,hk,rfl,hj,pY⟩:=hrel;have hE:=HE.o.keep (pY.aK (B:=B) (λ b hb=>ar) ar) (ah _);have Bb:=HD.q1.var.only pY ar;have yu:=HD.q1.fac.only pY ar;have hmap:=HD.t1.only pY ar;have hsz:w.heap.size+6<wr.heap.size:=hmap.lt;have HX:=lQ hj pY Bb yu hmap;have hvc:wr.cell? ⟨w.heap.size+5,0,U⟩=O (M (O ⟨w.heap.size+4,0,U⟩)):=Bb.cell 0;clear hj pY Bb yu hmap;by_cases hlt:k<rs.length
  · obtain⟨b,off,kd,nm,AZ,zs,zc,num,rn,rd,sn,sd,rfl,hb,Hk,d0,d1,d2,d3,d4,d5,d6,d7,f1,f2,f3,hZ,_,_⟩:=kA hE hlt
    have bw:b<wr.heap.size:=ar;have hzl:zs.length<=9223372036854775807:=by unfold maxLen at f3;omega
    have hZ2:cG nM (wr.alloc (D #[I J kd,.string nm,G AZ zs.length zc,I J num,I J rn,I J rd,I J sn,I J sd] 48)) B AZ zs:=hZ.keep ((aj wr _).mono ar) (ah _);have aeF:=HX.q1.alloc (D #[I J kd,.string nm,G AZ zs.length zc,I J num,I J rn,I J rd,I J sn,I J sd] 48);have Bb:=HX.q3.alloc (D #[I J kd,.string nm,G AZ zs.length zc,I J num,I J rn,I J rd,I J sn,I J sd] 48);have yu:=HX.q4.alloc (D #[I J kd,.string nm,G AZ zs.length zc,I J num,I J rn,I J rd,I J sn,I J sd] 48);have hmap:=HX.t4.below (aj wr (D #[I J kd,.string nm,G AZ zs.length zc,I J num,I J rn,I J rd,I J sn,I J sd] 48));have hloc:=Bk.new wr #[I J kd,.string nm,G AZ zs.length zc,I J num,I J rn,I J rd,I J sn,I J sd] 48;have x0:(wr.alloc (D #[I J kd,.string nm,G AZ zs.length zc,I J num,I J rn,I J rd,I J sn,I J sd] 48)).cell? ⟨w.heap.size+1,0,U⟩=O (I J (eO f 0)):=by rw[yu.cell];exact kQ (by rw[HF.o];omega)
    have x1:(wr.alloc (D #[I J kd,.string nm,G AZ zs.length zc,I J num,I J rn,I J rd,I J sn,I J sd] 48)).cell? ⟨w.heap.size+1,1,U⟩=O (I J (eO f 1)):=by rw[yu.cell];exact kQ (by rw[HF.o];omega)
    have x2:(wr.alloc (D #[I J kd,.string nm,G AZ zs.length zc,I J num,I J rn,I J rd,I J sn,I J sd] 48)).cell? ⟨w.heap.size+1,2,U⟩=O (I J (eO f 2)):=by rw[yu.cell];exact kQ (by rw[HF.o];omega)
    have x3:(wr.alloc (D #[I J kd,.string nm,G AZ zs.length zc,I J num,I J rn,I J rd,I J sn,I J sd] 48)).cell? ⟨w.heap.size+1,3,U⟩=O (I J (eO f 3)):=by rw[yu.cell];exact kQ (by rw[HF.o];omega)
    have x4:(wr.alloc (D #[I J kd,.string nm,G AZ zs.length zc,I J num,I J rn,I J rd,I J sn,I J sd] 48)).cell? ⟨w.heap.size+1,4,U⟩=O (I J (eO f 4)):=by rw[yu.cell];exact kQ (by rw[HF.o];omega)
    have x5:(wr.alloc (D #[I J kd,.string nm,G AZ zs.length zc,I J num,I J rn,I J rd,I J sn,I J sd] 48)).cell? ⟨w.heap.size+1,5,U⟩=O (I J (eO f 5)):=by rw[yu.cell];exact kQ (by rw[HF.o];omega)
    have x6:(wr.alloc (D #[I J kd,.string nm,G AZ zs.length zc,I J num,I J rn,I J rd,I J sn,I J sd] 48)).cell? ⟨w.heap.size+1,6,U⟩=O (I J (eO f 6)):=by rw[yu.cell];exact kQ (by rw[HF.o];omega)
    have x7:(wr.alloc (D #[I J kd,.string nm,G AZ zs.length zc,I J num,I J rn,I J rd,I J sn,I J sd] 48)).cell? ⟨w.heap.size+1,7,U⟩=O (I J (eO f 7)):=by rw[yu.cell];exact kQ (by rw[HF.o];omega)
    have x8:(wr.alloc (D #[I J kd,.string nm,G AZ zs.length zc,I J num,I J rn,I J rd,I J sn,I J sd] 48)).cell? ⟨w.heap.size+1,8,U⟩=O (I J (eO f 8)):=by rw[yu.cell];exact kQ (by rw[HF.o];omega)
    have x9:(wr.alloc (D #[I J kd,.string nm,G AZ zs.length zc,I J num,I J rn,I J rd,I J sn,I J sd] 48)).cell? ⟨w.heap.size+1,9,U⟩=O (I J (eO f 9)):=by rw[yu.cell];exact kQ (by rw[HF.o];omega)
    have HY:=lQ aeF Bb hmap hloc hZ2;have wJ:Hid (Only (λ b=>b=w.heap.size+4) W (wr.alloc (D #[I J kd,.string nm,G AZ zs.length zc,I J num,I J rn,I J rd,I J sn,I J sd] 48))):=HX.q2.alloc _;have ZF:=aG (uU (f:=f) Hk.o);obtain⟨hb',rK⟩:∃v,(zs.any λ z=>rC z f)=v:=⟨_,rfl⟩;have Hhb:=aG rK
    have ux:Hid (hb'=false->dR f rs (k+1)=dR f rs k):=aG λ e=>by rw[ZF.o];unfold Dy oh;rw[show(zs.any λ z=>rC z f)=false from Hhb.o.trans e];rfl
    have uy:Hid (hb'=true->dR f rs (k+1)=Kh (dR f rs k) k (kd,nm,zs,num,(rn,rd),(sn,sd))):=aG λ e=>by rw[ZF.o];unfold Dy oh;rw[show(zs.any λ z=>rC z f)=true from Hhb.o.trans e];rfl
    have TM:∀X,Below (wr.alloc (D #[I J kd,.string nm,G AZ zs.length zc,I J num,I J rn,I J rd,I J sn,I J sd] 48)).heap.size (wr.alloc (D #[I J kd,.string nm,G AZ zs.length zc,I J num,I J rn,I J rd,I J sn,I J sd] 48)) X->
     Calls prog 11 #[.agg #[I J kd,.string nm,G AZ zs.length zc,I J num,I J rn,I J rd,I J sn,I J sd],.agg #[I J (eO f 0),I J (eO f 1),I J (eO f 2),I J (eO f 3),I J (eO f 4),I J (eO f 5),I J (eO f 6),I J (eO f 7),I J (eO f 8),I J (eO f 9)]] X (jL (.bool hb') X):=λ X hX=>by
     have :=FZ kd nm AZ zs zc zs.length num rn rd sn sd f X B (hZ2.keep (hX.mono gW) (ah _)) (by have :=hX.size;simp at this;omega) rfl hzl HF.o;rw[rK,yq HF.o] at this;exact this
    have mR:=aG (TM _ (aA _ _));have Js:Hid ((k:Int)+1=((k+1:Nat):Int)):=aG ar;clear hZ hZ2 hE aeF Bb yu hmap hloc rK TM f1 f2 f3;have hnq:=TF;have aqp:=XJ;have JL:kd=1\/kd=2\/kd=3\/kd=4\/kd=5\/kd=6\/kd=7\/(kd≠1/\kd≠2/\kd≠3/\kd≠4/\kd≠5/\kd≠6/\kd≠7):=ar;rcases JL with rfl|rfl|rfl|rfl|rfl|rfl|rfl|JL
    · as_aux_lemma=>
       cases hb'
       · go_wp2_with (first
          |(refine dQ (o:=⟨O 45,_,_,_,_,_⟩) rfl _ _ _ rfl 3 140 gb aJ .nilFunc (pN _) rfl HY.q3 1 rfl ?_;rw[show(gj 1 (kG (w.heap.size+4) (w.heap.size+5))).getD .nilFunc=.func (.func 46) #[M (O ⟨w.heap.size+4,0,U⟩)] #[] from rfl])
          |(go_at_call 11;refine mR.o.mono ?_;rintro e w' ⟨rfl,hb⟩;obtain⟨u,rfl⟩:=dV hb;clear hb))
         go_roundw
         case rel=>exact⟨k+1,ar,gC,by rw[ux.o bY];exact HY.q1.ext _,wJ.o.jN _⟩
         case measure=>simp[intOf];omega
       · go_wp2_with (first
          |(refine dQ (o:=⟨O 45,_,_,_,_,_⟩) rfl _ _ _ rfl 3 140 gb aJ .nilFunc (pN _) rfl HY.q3 1 rfl ?_;rw[show(gj 1 (kG (w.heap.size+4) (w.heap.size+5))).getD .nilFunc=.func (.func 46) #[M (O ⟨w.heap.size+4,0,U⟩)] #[] from rfl])
          |(go_at_call 11;refine mR.o.mono ?_;rintro e w' ⟨rfl,hb⟩;obtain⟨u,rfl⟩:=dV hb;clear hb)
          |(go_at_call 46;refine(Mq 1 nm AZ zs.length zc num rn rd sn sd k _ (w.heap.size+4) (dR f rs k) (HY.q1.ext u)).mono ?_;rintro e w7 ⟨rfl,F5,py⟩;have H7:=dt F5 py;clear F5 py))
         go_roundw
         case rel=>exact⟨k+1,ar,gC,by rw[uy.o bY];exact H7.q1,(wJ.o.jN _).trans H7.t1⟩
         case measure=>simp[intOf];omega
    · as_aux_lemma=>
       cases hb'
       · go_wp2_with (first
          |(refine dQ (o:=⟨O 45,_,_,_,_,_⟩) rfl _ _ _ rfl 3 140 gb aJ .nilFunc (pN _) rfl HY.q3 2 rfl ?_;rw[show(gj 2 (kG (w.heap.size+4) (w.heap.size+5))).getD .nilFunc=.func (.func 47) #[M (O ⟨w.heap.size+4,0,U⟩)] #[] from rfl])
          |(go_at_call 11;refine mR.o.mono ?_;rintro e w' ⟨rfl,hb⟩;obtain⟨u,rfl⟩:=dV hb;clear hb))
         go_roundw
         case rel=>exact⟨k+1,ar,gC,by rw[ux.o bY];exact HY.q1.ext _,wJ.o.jN _⟩
         case measure=>simp[intOf];omega
       · go_wp2_with (first
          |(refine dQ (o:=⟨O 45,_,_,_,_,_⟩) rfl _ _ _ rfl 3 140 gb aJ .nilFunc (pN _) rfl HY.q3 2 rfl ?_;rw[show(gj 2 (kG (w.heap.size+4) (w.heap.size+5))).getD .nilFunc=.func (.func 47) #[M (O ⟨w.heap.size+4,0,U⟩)] #[] from rfl])
          |(go_at_call 11;refine mR.o.mono ?_;rintro e w' ⟨rfl,hb⟩;obtain⟨u,rfl⟩:=dV hb;clear hb)
          |(go_at_call 47;refine(Mm 2 nm AZ zs.length zc num rn rd sn sd k _ (w.heap.size+4) (dR f rs k) (HY.q1.ext u)).mono ?_;rintro e w7 ⟨rfl,F5,py⟩;have H7:=dt F5 py;clear F5 py))
         go_roundw
         case rel=>exact⟨k+1,ar,gC,by rw[uy.o bY];exact H7.q1,(wJ.o.jN _).trans H7.t1⟩
         case measure=>simp[intOf];omega
    · as_aux_lemma=>
       cases hb'
       · go_wp2_with (first
          |(refine dQ (o:=⟨O 45,_,_,_,_,_⟩) rfl _ _ _ rfl 3 140 gb aJ .nilFunc (pN _) rfl HY.q3 3 rfl ?_;rw[show(gj 3 (kG (w.heap.size+4) (w.heap.size+5))).getD .nilFunc=.func (.func 48) #[M (O ⟨w.heap.size+4,0,U⟩)] #[] from rfl])
          |(go_at_call 11;refine mR.o.mono ?_;rintro e w' ⟨rfl,hb⟩;obtain⟨u,rfl⟩:=dV hb;clear hb))
         go_roundw
         case rel=>exact⟨k+1,ar,gC,by rw[ux.o bY];exact HY.q1.ext _,wJ.o.jN _⟩
         case measure=>simp[intOf];omega
       · go_wp2_with (first
          |(refine dQ (o:=⟨O 45,_,_,_,_,_⟩) rfl _ _ _ rfl 3 140 gb aJ .nilFunc (pN _) rfl HY.q3 3 rfl ?_;rw[show(gj 3 (kG (w.heap.size+4) (w.heap.size+5))).getD .nilFunc=.func (.func 48) #[M (O ⟨w.heap.size+4,0,U⟩)] #[] from rfl])
          |(go_at_call 11;refine mR.o.mono ?_;rintro e w' ⟨rfl,hb⟩;obtain⟨u,rfl⟩:=dV hb;clear hb)
          |(go_at_call 48;refine(P5 3 nm AZ zs.length zc num rn rd sn sd k _ (w.heap.size+4) (dR f rs k) (HY.q1.ext u)).mono ?_;rintro e w7 ⟨rfl,F5,py⟩;have H7:=dt F5 py;clear F5 py))
         go_roundw
         case rel=>exact⟨k+1,ar,gC,by rw[uy.o bY];exact H7.q1,(wJ.o.jN _).trans H7.t1⟩
         case measure=>simp[intOf];omega
    · as_aux_lemma=>
       cases hb'
       · go_wp2_with (first
          |(refine dQ (o:=⟨O 45,_,_,_,_,_⟩) rfl _ _ _ rfl 3 140 gb aJ .nilFunc (pN _) rfl HY.q3 4 rfl ?_;rw[show(gj 4 (kG (w.heap.size+4) (w.heap.size+5))).getD .nilFunc=.func (.func 49) #[M (O ⟨w.heap.size+4,0,U⟩)] #[] from rfl])
          |(go_at_call 11;refine mR.o.mono ?_;rintro e w' ⟨rfl,hb⟩;obtain⟨u,rfl⟩:=dV hb;clear hb))
         go_roundw
         case rel=>exact⟨k+1,ar,gC,by rw[ux.o bY];exact HY.q1.ext _,wJ.o.jN _⟩
         case measure=>simp[intOf];omega
       · go_wp2_with (first
          |(refine dQ (o:=⟨O 45,_,_,_,_,_⟩) rfl _ _ _ rfl 3 140 gb aJ .nilFunc (pN _) rfl HY.q3 4 rfl ?_;rw[show(gj 4 (kG (w.heap.size+4) (w.heap.size+5))).getD .nilFunc=.func (.func 49) #[M (O ⟨w.heap.size+4,0,U⟩)] #[] from rfl])
          |(go_at_call 11;refine mR.o.mono ?_;rintro e w' ⟨rfl,hb⟩;obtain⟨u,rfl⟩:=dV hb;clear hb)
          |(go_at_call 49;refine(Mp 4 nm AZ zs.length zc num rn rd sn sd k _ (w.heap.size+4) (dR f rs k) (HY.q1.ext u)).mono ?_;rintro e w7 ⟨rfl,F5,py⟩;have H7:=dt F5 py;clear F5 py))
         go_roundw
         case rel=>exact⟨k+1,ar,gC,by rw[uy.o bY];exact H7.q1,(wJ.o.jN _).trans H7.t1⟩
         case measure=>simp[intOf];omega
    · as_aux_lemma=>
       cases hb'
       · go_wp2_with (first
          |(refine dQ (o:=⟨O 45,_,_,_,_,_⟩) rfl _ _ _ rfl 3 140 gb aJ .nilFunc (pN _) rfl HY.q3 5 rfl ?_;rw[show(gj 5 (kG (w.heap.size+4) (w.heap.size+5))).getD .nilFunc=.func (.func 50) #[M (O ⟨w.heap.size+4,0,U⟩)] #[] from rfl])
          |(go_at_call 11;refine mR.o.mono ?_;rintro e w' ⟨rfl,hb⟩;obtain⟨u,rfl⟩:=dV hb;clear hb))
         go_roundw
         case rel=>exact⟨k+1,ar,gC,by rw[ux.o bY];exact HY.q1.ext _,wJ.o.jN _⟩
         case measure=>simp[intOf];omega
       · go_wp2_with (first
          |(refine dQ (o:=⟨O 45,_,_,_,_,_⟩) rfl _ _ _ rfl 3 140 gb aJ .nilFunc (pN _) rfl HY.q3 5 rfl ?_;rw[show(gj 5 (kG (w.heap.size+4) (w.heap.size+5))).getD .nilFunc=.func (.func 50) #[M (O ⟨w.heap.size+4,0,U⟩)] #[] from rfl])
          |(go_at_call 11;refine mR.o.mono ?_;rintro e w' ⟨rfl,hb⟩;obtain⟨u,rfl⟩:=dV hb;clear hb)
          |(go_at_call 50;refine(Mo 5 nm AZ zs.length zc num rn rd sn sd k _ (w.heap.size+4) (dR f rs k) (HY.q1.ext u)).mono ?_;rintro e w7 ⟨rfl,F5,py⟩;have H7:=dt F5 py;clear F5 py))
         go_roundw
         case rel=>exact⟨k+1,ar,gC,by rw[uy.o bY];exact H7.q1,(wJ.o.jN _).trans H7.t1⟩
         case measure=>simp[intOf];omega
    · as_aux_lemma=>
       cases hb'
       · go_wp2_with (first
          |(refine dQ (o:=⟨O 45,_,_,_,_,_⟩) rfl _ _ _ rfl 3 140 gb aJ .nilFunc (pN _) rfl HY.q3 6 rfl ?_;rw[show(gj 6 (kG (w.heap.size+4) (w.heap.size+5))).getD .nilFunc=.func (.func 51) #[] #[M (O ⟨w.heap.size+5,0,U⟩)] from rfl])
          |(go_at_call 11;refine mR.o.mono ?_;rintro e w' ⟨rfl,hb⟩;obtain⟨u,rfl⟩:=dV hb;clear hb))
         go_roundw
         case rel=>exact⟨k+1,ar,gC,by rw[ux.o bY];exact HY.q1.ext _,wJ.o.jN _⟩
         case measure=>simp[intOf];omega
       · go_wp2_with (first
          |(refine dQ (o:=⟨O 45,_,_,_,_,_⟩) rfl _ _ _ rfl 3 140 gb aJ .nilFunc (pN _) rfl HY.q3 6 rfl ?_;rw[show(gj 6 (kG (w.heap.size+4) (w.heap.size+5))).getD .nilFunc=.func (.func 51) #[] #[M (O ⟨w.heap.size+5,0,U⟩)] from rfl])
          |(go_at_call 11;refine mR.o.mono ?_;rintro e w' ⟨rfl,hb⟩;obtain⟨u,rfl⟩:=dV hb;clear hb)
          |(go_at_call 51;refine(Hl 6 nm AZ zs.length zc num rn rd sn sd k _ (w.heap.size+4) (dR f rs k) (w.heap.size+5) (HY.q1.ext u) (HY.q2.ext u)).mono ?_;rintro e w7 ⟨rfl,F5,py⟩;have H7:=dt F5 py;clear F5 py))
         go_roundw
         case rel=>exact⟨k+1,ar,gC,by rw[uy.o bY];exact H7.q1,(wJ.o.jN _).trans H7.t1⟩
         case measure=>simp[intOf];omega
    · as_aux_lemma=>
       cases hb'
       · go_wp2_with (first
          |(refine dQ (o:=⟨O 45,_,_,_,_,_⟩) rfl _ _ _ rfl 3 140 gb aJ .nilFunc (pN _) rfl HY.q3 7 rfl ?_;rw[show(gj 7 (kG (w.heap.size+4) (w.heap.size+5))).getD .nilFunc=.func (.func 52) #[] #[M (O ⟨w.heap.size+5,0,U⟩)] from rfl])
          |(go_at_call 11;refine mR.o.mono ?_;rintro e w' ⟨rfl,hb⟩;obtain⟨u,rfl⟩:=dV hb;clear hb))
         go_roundw
         case rel=>exact⟨k+1,ar,gC,by rw[ux.o bY];exact HY.q1.ext _,wJ.o.jN _⟩
         case measure=>simp[intOf];omega
       · go_wp2_with (first
          |(refine dQ (o:=⟨O 45,_,_,_,_,_⟩) rfl _ _ _ rfl 3 140 gb aJ .nilFunc (pN _) rfl HY.q3 7 rfl ?_;rw[show(gj 7 (kG (w.heap.size+4) (w.heap.size+5))).getD .nilFunc=.func (.func 52) #[] #[M (O ⟨w.heap.size+5,0,U⟩)] from rfl])
          |(go_at_call 11;refine mR.o.mono ?_;rintro e w' ⟨rfl,hb⟩;obtain⟨u,rfl⟩:=dV hb;clear hb)
          |(go_at_call 52;refine(Mn 7 nm AZ zs.length zc num rn rd sn sd k _ (w.heap.size+4) (dR f rs k) (w.heap.size+5) (HY.q1.ext u) (HY.q2.ext u)).mono ?_;rintro e w7 ⟨rfl,F5,py⟩;have H7:=dt F5 py;clear F5 py))
         go_roundw
         case rel=>exact⟨k+1,ar,gC,by rw[uy.o bY];exact H7.q1,(wJ.o.jN _).trans H7.t1⟩
         case measure=>simp[intOf];omega
    · as_aux_lemma=>
       obtain⟨k1,k2,k3,k4,k5,k6,k7⟩:=JL;have hnone:gj kd (kG (w.heap.size+4) (w.heap.size+5))=U:=by simp[gj,kG,k1,k2,k3,k4,k5,k6,k7]
       have aeH:=aG hnone
       have abb:Hid (dR f rs (k+1)=dR f rs k):=aG (by
        cases hb'
        · exact ux.o bY
        · rw[uy.o bY];unfold Kh;simp only;rw[if_neg k1,if_neg k2,if_neg k3,if_neg k4,if_neg k5,if_neg k6,if_neg k7])
       clear hnone;go_wp2_with (refine dQ (o:=⟨O 45,_,_,_,_,_⟩) rfl _ _ _ rfl 3 140 gb aJ .nilFunc (pN _) rfl HY.q3 kd rfl ?_;rw[show(gj kd (kG (w.heap.size+4) (w.heap.size+5))).getD .nilFunc=.nilFunc by rw[aeH.o];rfl]);go_roundw
       case rel=>exact⟨k+1,ar,gC,by rw[abb.o];exact HY.q1,wJ.o⟩
       case measure=>simp[intOf];omega
  · obtain rfl:k=rs.length:=ar
    clear hE;obtain⟨S,hS⟩:∃S,dR f rs rs.length=S:=⟨_,rfl⟩;have HS:=aG hS;have hX:=HX.o;rw[hS] at hX;have HX:=aG hX;clear hS hX;obtain⟨tg,si,lim,price,fn,fd,tn,td,cn,cd,sn,sd,rn,rd,pr,so,ba,al,de⟩:=S;have c19:wr.cell? ⟨w.heap.size+4,19,U⟩=O (I J al):=HX.q1.cell 19;have c20:wr.cell? ⟨w.heap.size+4,20,U⟩=O (I J de):=HX.q1.cell 20;have c16:wr.cell? ⟨w.heap.size+4,16,U⟩=O (.bool pr):=HX.q1.cell 16;have cA:wr.cell? ⟨w.heap.size+4,0,U⟩=O (.bool false):=HX.q1.cell 0;have fA:=HX.q1.free 0;have lj:=HX.q1.lt;obtain⟨ok,gU⟩:∃v,IK ⟨tg,si,lim,price,fn,fd,tn,td,cn,cd,sn,sd,rn,rd,pr,so,ba,al,de⟩=v:=⟨_,rfl⟩;obtain⟨yb,yL⟩:∃v,TE ⟨tg,si,lim,price,fn,fd,tn,td,cn,cd,sn,sd,rn,rd,pr,so,ba,al,de⟩=v:=⟨_,rfl⟩;have hR:vG ⟨tg,si,lim,price,fn,fd,tn,td,cn,cd,sn,sd,rn,rd,pr,so,ba,al,de⟩=kF ok tg si lim price fn fd tn td cn cd sn sd rn rd yb:=by rw[<-gU,<-yL];rfl
    have TN:ok=(decide (0<=al)&&pr&&decide (de<0)):=gU.symm;have aeI:yb=if 0<=de then de else al:=yL.symm
    have Hok:=aG TN;have Hyb:=aG aeI;have HR:=aG hR;clear gU yL hR TN aeI
    have TP:(decide (0<=al)=false/\decide (de<0)=true/\de<0)\/(decide (0<=al)=false/\decide (de<0)=false/\0<=de)\/(decide (0<=al)=true/\decide (de<0)=true/\de<0)\/(decide (0<=al)=true/\decide (de<0)=false/\0<=de):=by by_cases h1:0<=al<;>by_cases h2:de<0<;>simp[h1,h2]<;>omega
    go_upto_region 11 with(fail);go_cut [] (λ X=>Bk X (w.heap.size+4) #[.bool ok,.bool tg,.bool si,I J lim,I J price,I J fn,I J fd,I J tn,I J td,I J cn,I J cd,I J sn,I J sd,I J rn,I J rd,I J 0,.bool pr,.bool so,.bool ba,I J al,I J de] 139/\Bk X (w.heap.size+5) #[M (O ⟨w.heap.size+4,0,U⟩)] 137/\Only (λ b=>b=w.heap.size+4) W X)
    case first =>
     have hpr:pr=true\/pr=false:=by cases pr<;>simp
     rcases TP with⟨z1,z2,z3⟩|⟨z1,z2,z3⟩|⟨z1,z2,z3⟩|⟨z1,z2,z3⟩
     all_goals
      rcases hpr with rfl|rfl
      all_goals
       first|(have hv:ok=true:=by rw[Hok.o,z1,z2];rfl)|(have hv:ok=false:=by rw[Hok.o,z1,z2];rfl)
       subst hv;clear Hok;refine mF 19 aV aV ?_;simp only[fU,List.take_zero,List.drop_succ_cons,List.drop_zero];repeat(go_big_quiet_step (fail))
       refine wpQuiet_nil ?_;go_wp2_with fail;go_meet;exact⟨(HX.q1.aS 0 _).drew,(HX.q3.far bY _).drew,(HX.q2.aS (p:=⟨w.heap.size+4,0,U⟩) (.inl rfl) _).drew⟩
    case rest=>
     obtain⟨X,Ae⟩:∃X,X=wc:=⟨_,rfl⟩;rw[<-Ae] at hcut⊢;clear Ae c16 cA fA c19 c20 lj hvc HX Hok;obtain⟨bj,bv,ho⟩:=hcut;go_wp2_with fail;have c15:X.cell? ⟨w.heap.size+4,15,U⟩=O (I J 0):=bj.cell 15;have c19:X.cell? ⟨w.heap.size+4,19,U⟩=O (I J al):=bj.cell 19;have c20:X.cell? ⟨w.heap.size+4,20,U⟩=O (I J de):=bj.cell 20;have f15:=bj.free 15;have lj:=bj.lt;have cv:X.cell? ⟨w.heap.size+5,0,U⟩=O (M (O ⟨w.heap.size+4,0,U⟩)):=bv.cell 0;have HJ:=fH bj bv ho;clear bj bv ho;refine mF 5 aV aV ?_;simp only[fU,List.take_zero,List.drop_succ_cons,List.drop_zero];repeat(go_big_quiet_step (fail))
     refine wpQuiet_nil ?_;go_upto_region 13 with(fail);refine forget (λ X=>Bk X (w.heap.size+4) #[.bool ok,.bool tg,.bool si,I J lim,I J price,I J fn,I J fd,I J tn,I J td,I J cn,I J cd,I J sn,I J sd,I J rn,I J rd,I J al,.bool pr,.bool so,.bool ba,I J al,I J de] 139/\Bk X (w.heap.size+5) #[M (O ⟨w.heap.size+4,0,U⟩)] 137/\Only (λ b=>b=w.heap.size+4) W X) ⟨(HJ.q1.aS 15 _).drew,(HJ.q2.far bY _).drew,(HJ.t2.aS (p:=⟨w.heap.size+4,15,U⟩) (.inl rfl) _).drew⟩ ?_;clear c15 c19 c20 f15 lj cv HJ;rintro X ⟨bj,bv,ho⟩;have c15:X.cell? ⟨w.heap.size+4,15,U⟩=O (I J al):=bj.cell 15;have c19:X.cell? ⟨w.heap.size+4,19,U⟩=O (I J al):=bj.cell 19;have c20:X.cell? ⟨w.heap.size+4,20,U⟩=O (I J de):=bj.cell 20;have f15:=bj.free 15;have lj:=bj.lt;have cv:X.cell? ⟨w.heap.size+5,0,U⟩=O (M (O ⟨w.heap.size+4,0,U⟩)):=bv.cell 0;have HJ:=fH bj bv ho;clear bj bv ho;by_cases hde:de<0
     · have TQ:yb=al:=by rw[Hyb.o,if_neg ar]
       have abd:=aG TQ;clear TQ Hyb TP;go_upto_region 15 with(fail);have hres:=(HD.q1.res.only HJ.t2 ar);have HRS:=aG hres;clear hres;go_wp2_with (first|(refine dM (o:=⟨O 104,_,_,_,_,_⟩) rfl _ _ rfl (w.heap.size+4) 0 rfl (kF ok tg si lim price fn fd tn td cn cd sn sd rn rd al) _ (λ j u h=>by rw[bX,HJ.q1.cell];exact Od h) gH rfl rT ?_)|(refine eK (o:=⟨U,.store 63 _ _,_,_,_,_⟩) rfl _ _ _ rfl (w.heap.size+2) (kF ok tg si lim price fn fd tn td cn cd sn sd rn rd al) rfl rfl HRS.o rT rfl yr ?_;intro X2 hb2 tI));refine bodyPost_ret (v:=.agg (kF ok tg si lim price fn fd tn td cn cd sn sd rn rd al)) (results_cell_row rfl _ _ (w.heap.size+2) 63 (kF ok tg si lim price fn fd tn td cn cd sn sd rn rd al) (0,0) _ rfl hb2 gH rfl rT) rfl ⟨by rw[HS.o,HR.o,abd.o],?_⟩;exact HD.q1.low.trans ((HJ.t2.aK (B:=w.heap.size) (λ b hb=>ar) ar).trans (tI.aK (λ b hb=>ar) (by have :=HJ.t2.size;omega)))
     · have ajk:0<=de:=ar
       have TQ:yb=de:=by rw[Hyb.o,if_pos ajk]
       have abd:=aG TQ;clear TQ Hyb TP hde;go_upto_region 14 with(fail);refine mF 5 aV aV ?_;simp only[fU,List.take_zero,List.drop_succ_cons,List.drop_zero];repeat(go_big_quiet_step (fail))
       refine wpQuiet_nil ?_;go_upto_region 15 with(fail);refine forget (λ X=>Bk X (w.heap.size+4) #[.bool ok,.bool tg,.bool si,I J lim,I J price,I J fn,I J fd,I J tn,I J td,I J cn,I J cd,I J sn,I J sd,I J rn,I J rd,I J de,.bool pr,.bool so,.bool ba,I J al,I J de] 139/\Bk X (w.heap.size+5) #[M (O ⟨w.heap.size+4,0,U⟩)] 137/\Only (λ b=>b=w.heap.size+4) W X) ⟨(HJ.q1.aS 15 _).drew,(HJ.q2.far bY _).drew,(HJ.t2.aS (p:=⟨w.heap.size+4,15,U⟩) (.inl rfl) _).drew⟩ ?_;clear c15 c19 c20 f15 lj cv HJ;rintro X ⟨bj,bv,ho⟩;have c15:X.cell? ⟨w.heap.size+4,15,U⟩=O (I J de):=bj.cell 15;have c19:X.cell? ⟨w.heap.size+4,19,U⟩=O (I J al):=bj.cell 19;have c20:X.cell? ⟨w.heap.size+4,20,U⟩=O (I J de):=bj.cell 20;have f15:=bj.free 15;have lj:=bj.lt;have cv:X.cell? ⟨w.heap.size+5,0,U⟩=O (M (O ⟨w.heap.size+4,0,U⟩)):=bv.cell 0;have HJ:=fH bj bv ho;clear bj bv ho;go_upto_region 15 with(fail);have hres:=(HD.q1.res.only HJ.t2 ar);have HRS:=aG hres;clear hres;go_wp2_with (first|(refine dM (o:=⟨O 104,_,_,_,_,_⟩) rfl _ _ rfl (w.heap.size+4) 0 rfl (kF ok tg si lim price fn fd tn td cn cd sn sd rn rd de) _ (λ j u h=>by rw[bX,HJ.q1.cell];exact Od h) gH rfl rT ?_)|(refine eK (o:=⟨U,.store 63 _ _,_,_,_,_⟩) rfl _ _ _ rfl (w.heap.size+2) (kF ok tg si lim price fn fd tn td cn cd sn sd rn rd de) rfl rfl HRS.o rT rfl yr ?_;intro X2 hb2 tI));refine bodyPost_ret (v:=.agg (kF ok tg si lim price fn fd tn td cn cd sn sd rn rd de)) (results_cell_row rfl _ _ (w.heap.size+2) 63 (kF ok tg si lim price fn fd tn td cn cd sn sd rn rd de) (0,0) _ rfl hb2 gH rfl rT) rfl ⟨by rw[HS.o,HR.o,abd.o],?_⟩;exact HD.q1.low.trans ((HJ.t2.aK (B:=w.heap.size) (λ b hb=>ar) ar).trans (tI.aK (λ b hb=>ar) (by have :=HJ.t2.size;omega)))
end
end Go.Proofs.YtbcpcneadjcmlaaGreatDoor
