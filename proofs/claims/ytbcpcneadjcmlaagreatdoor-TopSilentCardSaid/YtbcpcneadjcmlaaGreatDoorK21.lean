import Derived.Test.YtbcpcneadjcmlaaGreatDoorK20
namespace Go.Proofs.YtbcpcneadjcmlaaGreatDoor
open Go.Proofs.Tryz
set_option maxRecDepth 100000
set_option maxHeartbeats 16000000
set_option linter.unusedVariables false
set_option linter.unusedSimpArgs false
open Value renaming int→I,slice→G,pointer→M
open IntKind renaming i64→J
open Obj renaming cells→D
open Option renaming some→O,none→U
open Go renaming World→agb
section
open Go.RowKit Go.Maps
attribute [local go_sem] aQ aC bW
theorem afm(X Y:agb)(lo hi:Int)(h:aZ X Y):∃g,M (O ⟨Y.heap.size,0,U⟩)=M (O ⟨g,0,U⟩)/\Bk (Y.alloc (D #[I J lo,I J hi] 88)) g #[I J lo,I J hi] 88/\aZ X (Y.alloc (D #[I J lo,I J hi] 88))/\X.heap.size<=g:=
 ⟨_,rfl,Bk.new _ _ _,ay h _,h.size⟩
theorem afn(X u:agb)(lo hi:Int):∃g,M (O ⟨X.heap.size,0,U⟩)=M (O ⟨g,0,U⟩)/\Bk (((ext (X.alloc (D #[I J 0,I J 0] 88)).drew u).setCell ⟨X.heap.size,0,U⟩ (I J lo)).setCell ⟨X.heap.size,1,U⟩ (I J hi)) g #[I J lo,I J hi] 88/\
 aZ X (((ext (X.alloc (D #[I J 0,I J 0] 88)).drew u).setCell ⟨X.heap.size,0,U⟩ (I J lo)).setCell ⟨X.heap.size,1,U⟩ (I J hi))/\X.heap.size<=g:=by
 have h1:aZ X (ext (X.alloc (D #[I J 0,I J 0] 88)).drew u):=Below.jN ((aj _ _).drew) u;have h2:Bk (ext (X.alloc (D #[I J 0,I J 0] 88)).drew u) X.heap.size #[I J 0,I J 0] 88:=(Bk.new X #[I J 0,I J 0] 88).below (Below.jN ((aA _ _).drew) u);have ho:Only (λ g=>g=X.heap.size) (ext (X.alloc (D #[I J 0,I J 0] 88)).drew u) (((ext (X.alloc (D #[I J 0,I J 0] 88)).drew u).setCell ⟨X.heap.size,0,U⟩ (I J lo)).setCell ⟨X.heap.size,1,U⟩ (I J hi)):=((Only.refl (λ g=>g=X.heap.size) _).aS (p:=⟨X.heap.size,0,U⟩) (.inl rfl) _).aS (p:=⟨X.heap.size,1,U⟩) (.inl rfl) _;exact⟨_,rfl,(h2.aS 0 (I J lo)).aS 1 (I J hi),h1.trans (ho.aK (λ g hg=>ar) h1.size),ah _⟩
theorem MF(A1 A2 B1 B2:dB)(c1 c2 q1 q2:Nat)(T:List Nd)(ln:Nat)(nd:Nd)(w:agb)(h:ic vH w A1 (T.map pA))(hT:T.length<=20000)(hf:tV aP T T.length ln nd)(hln:ln<=20000)(h1:ic dr w B1 nd.cJ)(h2:ic dr w B2 (cV nd.kids)):
 Calls prog 90 #[.agg #[G A1 T.length c1,G A2 ln c2],.agg #[I J nd.attr,G B1 nd.cJ.length q1,G B2 nd.kids.length q2,I J nd.leaf]] w (jL (.bool true) w):=by
 rcases hf with⟨k1,k2,k3,k4⟩|⟨k1,k2,k3,k4,k5,k6,k7,k8⟩
 · have e1:(nd.kids.length:Int)=0:=by rw[k1];rfl
   have e2:(nd.cJ.length:Int)=0:=by rw[k3];rfl
   have e3:(nd.attr:Int)=0:=by rw[k2];rfl
   have e4:(nd.leaf:Int)<(ln:Int):=ar;clear k1 k2 k3 h h1 h2;go_enter func90,ntmps90;go_wp2_with fail;go_ret;exact⟨rfl,dE⟩
 · as_aux_lemma=>
   have hc0:0<nd.cJ.length:=iY.2 k3;have hcb:=wO k5 k6;obtain⟨b0,b1,b2⟩:=Ih nd.attr ar;have Ob:=λ(w:agb)=>J9 rS k1 w;obtain⟨lo,nA⟩:∃x,(atR aP nd.attr).1=x:=⟨_,rfl⟩;obtain⟨hi,zl⟩:∃x,(atR aP nd.attr).2=x:=⟨_,rfl⟩;rw[nA,zl] at hcb Ob;rw[nA] at b0 b1;rw[zl] at b1 b2;obtain⟨nc,hnc⟩:∃n,nd.cJ.length=n:=⟨_,rfl⟩;obtain⟨nk,RO⟩:∃n,nd.kids.length=n:=⟨_,rfl⟩;have Sd:nk=nc+1:=ar;have nS:nc<=1000000000:=ar;have HK:=yK k5 k6 k7 k8 nA zl hnc RO;have HE:=fH h h1 h2;have e1:¬(nk:Int)=0:=ar;have e2:¬(nc:Int)=0:=ar;have e3:¬(10:Int)<=(nd.attr:Int):=ar;have e4:((nd.leaf:Int) !=0)=false:=by rw[k2];rfl
   have e5:((nk:Int) !=(nc:Int)+1)=false:=by rw[bne_eq_false_iff_eq];omega
   have Js:nk<=1000000001:=ar;have e6:¬(nd.attr:Int)<0:=ar;rw[hnc,RO];clear k2 k3 k4 k5 k6 k7 k8 h h1 h2 nA zl hc0 hcb Sd;go_enter func90,ntmps90;go_upto_region 5 with fail;have akb:=HK.q7;have hw:aZ w ((w.alloc (D #[G A1 T.length c1,G A2 ln c2] 56)).alloc (D #[I J nd.attr,G B1 nc q1,G B2 nk q2,I J nd.leaf] 121)):=dE;refine forget (λ X=>aZ w X/\Bk X w.heap.size #[G A1 T.length c1,G A2 ln c2] 56/\Bk X (w.heap.size+1) #[I J nd.attr,G B1 nc q1,G B2 nk q2,I J nd.leaf] 121) ⟨hw,(au _ _ _ _ rfl).alloc _,au _ _ _ _ bY⟩ ?_;clear hw akb;rintro X ⟨hX,hb0,hb1⟩;obtain⟨c0,l0⟩:=hb0.cl0;obtain⟨c1',l1⟩:=hb1.cl0;have HX:=fH hX hb0 hb1;clear hX hb0 hb1;go_cut [5] (λ v X'=>∃g,v=M (O ⟨g,0,U⟩)/\Bk X' g #[I J lo,I J hi] 88/\aZ X X'/\X.heap.size<=g)
   case first =>
    have hcell:∀Y,aZ X Y->Y.cell? ⟨w.heap.size+1,0,U⟩=O (I J nd.attr):=λ Y hY=>(hY.cell (p:=⟨w.heap.size+1,0,U⟩) l1).trans (c1' 0);have d1:∀u,(ext X.drew u).cell? ⟨w.heap.size+1,0,U⟩=O (I J nd.attr):=λ u=>hcell _ dE;have d2:∀o u,(ext (X.alloc o).drew u).cell? ⟨w.heap.size+1,0,U⟩=O (I J nd.attr):=λ o u=>hcell _ dE;have d3:∀o u,((ext X.drew u).alloc o).cell? ⟨w.heap.size+1,0,U⟩=O (I J nd.attr):=λ o u=>hcell _ dE;have d4:∀o,(X.alloc o).drew.cell? ⟨w.heap.size+1,0,U⟩=O (I J nd.attr):=λ o=>hcell _ dE;have mW:=aG hcell;clear hcell;go_region_with (go_at_call 23;refine(nD _).mono ?_;rintro e w' ⟨rfl,hb⟩;(first|(obtain⟨u,rfl⟩:=gI hb;clear hb)|(obtain⟨u,rfl⟩:=ep hb;clear hb)|(obtain⟨u,rfl⟩:=dV hb;clear hb)))
    all_goals go_wp2_with fail
    all_goals go_meet
    all_goals first|(with_reducible refine afm _ _ _ _ ?_;exact dE)|(with_reducible exact afn _ _ _ _)
   case rest=>
   obtain⟨Z,hZ⟩:∃Z,Z=wc:=⟨_,rfl⟩;rw[<-hZ] at hcut⊢;obtain⟨g,hg,hb,bI,hgX⟩:=hcut;subst hg;clear hZ c0 l0 c1' l1;have hcz:=(HX.t2.below bI).cell;have JH:=(HX.t2.below bI).lt;have HZ:=dt hb bI;clear hb bI;have hwg:w.heap.size<=g:=by have :=HX.q1.size;omega
   have HWZ:Hid (aZ w Z):=aG (aq HX.q1 HZ.t1);have BZ:∀wr,Only (λ x=>x=g) Z wr->aZ w wr:=λ wr ho=>HWZ.o.trans (ho.aK (λ x hx=>ar) HWZ.o.size);have hng:w.heap.size+1≠g:=by have :=HX.t2.lt;omega
   have afp:w.heap.size≠g:=by have :=HX.q2.lt;omega
   have HB:=fH BZ hng afp;clear BZ hng afp hgX;go_wp2_with fail;go_loopw [72] (λ i wr=>∃(j:Nat) (l0:Int),j<=nc/\i=I J j/\Bk wr g #[I J l0,I J hi] 88/\(∀c,nd.cJ[j]?=O c->l0<c)/\Only (λ x=>x=g) Z wr) (λ i _=>nc - (intOf i).toNat)
   case atStart=>exact⟨0,lo,ak _,rfl,HZ.q1,λ c hc=>(by have h:=(HK.q2 c (az hc)).1;rw[HK.q5] at h;exact h),Only.refl _ _⟩
   case round=>
    clear hcz JH;obtain⟨j,l0,hj,rfl,hb,yR,ho⟩:=hrel;generalize wr=wA at *;by_cases hlt:j<nc
    · as_aux_lemma=>
      have rE:(j:Int)<(nc:Int):=ar;have bI:=HB.q1 wA ho;obtain⟨b3,o3,c,rfl,hb3,_,Hc,dc,f1,f2⟩:=(HE.q2.keep bI (ah _)).fC (k:=j) (by rw[HK.q7];exact hlt);have hbl:b3<wA.heap.size:=by have :=bI.size;omega
      have p1:l0<c:=yR c Hc.o;have p2:c<=hi:=by have h:=(HK.q2 c (az Hc.o)).2;rw[HK.q6] at h;exact h
      have q1:¬c<=l0:=ar;have q2:¬hi<c:=ar
      have FL:∀x,nd.cJ[j+1]?=O x->c<x:=λ x hx=>by have h:=eG.1 HK.q1 j (j+1) (ai.1 Hc.o).1 (ai.1 hx).1 ar;rw[(ai.1 Hc.o).2,(ai.1 hx).2] at h;exact h
      obtain⟨cg,lg⟩:=hb.cl0;have fg:=hb.free 0;have HA:=fH hb FL ho;clear hb FL ho bI yR;go_wp2_with fail;go_roundw
      case rel=>exact⟨j+1,c,ar,gC,HA.q1.aS 0 _,HA.q2,HA.t2.aS (p:=⟨g,0,U⟩) (.inl rfl) _⟩
      case measure=>simp[intOf];omega
    · as_aux_lemma=>
      have bI:=HB.q1 wA ho;have Mr:=((HX.t2.below HZ.t1).only ho HB.q2);have V6:=((HX.q2.below HZ.t1).only ho HB.t2);obtain⟨c1,l1⟩:=Mr.cl0;have HA:=fH bI V6 Mr;clear bI V6 Mr hb yR ho;go_wp2_with fail;go_loopw [92] (λ i wr=>∃(j:Nat),j<=nk/\i=I J j/\aZ wA wr) (λ i _=>nk - (intOf i).toNat)
      case atStart=>exact⟨0,ak _,rfl,aA _ _⟩
      case round=>
       clear c1 l1;obtain⟨j,hj,rfl,bI⟩:=hrel;generalize wr=wB at *;have hlw:aZ w wB:=aq HA.q1 bI;by_cases akd:j<nk
       · have rE:(j:Int)<(nk:Int):=ar
         obtain⟨b3,o3,kx,V1,hb3,_,Hk,dk,f1,f2⟩:=(HE.t2.keep hlw (ah _)).fC (k:=j) (by rw[dy,HK.t7];exact akd);obtain⟨k,hk⟩:∃k,nd.kids[j]?=O k:=⟨_,af (by have :=HK.t7;omega)⟩
         have hkx:kx=(k:Int):=by
          have :=Hk.o;unfold cV at this;rw[bQ,hk] at this;injection this with e
          exact e.symm
         subst hkx;subst V1;obtain⟨hkT,hka⟩:=HK.q4 k (az hk);obtain⟨BN,abK⟩:∃x,T[k]?=O x:=⟨_,af hkT⟩;obtain⟨bN,oN,A5,q5,A6,q6,rfl,vI,m0,m1,m2,m3,_,_,_,_,_,_⟩:=mS (HE.q1.keep hlw (ah _)) abK;have hbl:b3<wB.heap.size:=by have :=hlw.size;omega
         have aq8:bN<wB.heap.size:=by have :=hlw.size;omega
         have c0:=(HA.q2.below bI).cell;have l0':=(HA.q2.below bI).lt;have c1:=(HA.t2.below bI).cell;have l1:=(HA.t2.below bI).lt;have Ou:(k:Int)<(T.length:Int):=ar;have t1:¬(k:Int)<0:=ar;have t2:¬(T.length:Int)<=(k:Int):=ar;have afq:=hka BN abK;have HL:=aG bI;have sA:∀u,aZ wA (ext wB u):=λ u=>Below.jN HL.o u;have Yn:=aG sA
         have ZP:∀p,nd.kids[j - 1]?=O p->0<j->¬(p:Int)=(k:Int):=λ p hp hj0 e=>by have h:=HK.q3 (j - 1) p k hp (by rw[show j - 1+1=j from ar];exact hk);omega
         have HD:=aG ZP
         have AD:(BN.kids.length:Int)=0\/(0<(BN.kids.length:Int)/\¬(BN.attr:Int)<=(nd.attr:Int)):=by
          by_cases he:BN.kids=[]
          · exact .inl (by rw[he];rfl)
          · refine .inr ⟨?_,?_⟩
            · have :=iY.2 he;omega
            · have :=afq he;omega
         clear bI sA ZP afq hka abK hk Hk hlw;have s1:decide ((k:Int)<0)=false:=decide_eq_false t1;have s2:decide ((T.length:Int)<=(k:Int))=false:=decide_eq_false t2;have t3:¬T.length<=k:=ar;have s2n:decide (T.length<=k)=false:=decide_eq_false t3;rcases AD with z1|⟨z1,z2⟩
         · by_cases hj0:0<j
           · as_aux_lemma=>
             have MG:(0:Int)<(j:Int):=ar;have s3:decide ((0:Int)<(j:Int))=true:=decide_eq_true MG;obtain⟨m,rfl⟩:∃m,j=m+1:=⟨j - 1,ar⟩;obtain⟨b4,o4,px,Xo,hb4,_,Hp,dp,f3,f4⟩:=(HE.t2.keep (aq HA.q1 HL.o) (ah _)).fC (k:=m) (by rw[dy,HK.t7];omega);injection Xo with Xo
             injection Xo with Xv e2'
             subst Xv;subst e2';obtain⟨p,hp⟩:∃p,nd.kids[m]?=O p:=⟨_,af (by have :=HK.t7;omega)⟩
             have hpx:px=(p:Int):=by
              have :=Hp.o;unfold cV at this;rw[bQ,hp] at this;injection this with e
              exact e.symm
             subst hpx
             have s4:((p:Int)==(k:Int))=false:=by have :=HD.o p hp ar;rw[beq_eq_false_iff_ne];exact this
             have t4:¬p=k:=by rw[beq_eq_false_iff_ne] at s4;omega
             have s4n:(p==k)=false:=by rw[beq_eq_false_iff_ne];exact t4
             have s4d:decide (p=k)=false:=decide_eq_false t4;have s3n:decide (0<m+1)=true:=decide_eq_true ar;clear hp Hp;have s5:decide ((0:Int)<(BN.kids.length:Int))=false:=by rw[z1];rfl
             have z3:¬(0:Int)<(BN.kids.length:Int):=ar;have z4:¬0<BN.kids.length:=ar;have s5n:decide (0<BN.kids.length)=false:=decide_eq_false z4;clear z1;go_wp2_with fail;refine bJ wB aV aV ?_;repeat(go_big_quiet_step (fail))
             refine wpQuiet_nil (λ v=>?_);go_wp2_with fail;go_roundw
             case rel=>exact⟨m+1+1,ar,gC,Yn.o _⟩
             case measure=>simp[intOf];omega
           · as_aux_lemma=>
             have MG:¬(0:Int)<(j:Int):=ar;have s3:decide ((0:Int)<(j:Int))=false:=decide_eq_false MG;have s3n:decide (0<j)=false:=decide_eq_false hj0;have s5:decide ((0:Int)<(BN.kids.length:Int))=false:=by rw[z1];rfl
             have z3:¬(0:Int)<(BN.kids.length:Int):=ar;have z4:¬0<BN.kids.length:=ar;have s5n:decide (0<BN.kids.length)=false:=decide_eq_false z4;clear z1;go_wp2_with fail;refine bJ wB aV aV ?_;repeat(go_big_quiet_step (fail))
             refine wpQuiet_nil (λ v=>?_);go_wp2_with fail;go_roundw
             case rel=>exact⟨j+1,ar,gC,Yn.o _⟩
             case measure=>simp[intOf];omega
         · by_cases hj0:0<j
           · as_aux_lemma=>
             have MG:(0:Int)<(j:Int):=ar;have s3:decide ((0:Int)<(j:Int))=true:=decide_eq_true MG;obtain⟨m,rfl⟩:∃m,j=m+1:=⟨j - 1,ar⟩;obtain⟨b4,o4,px,Xo,hb4,_,Hp,dp,f3,f4⟩:=(HE.t2.keep (aq HA.q1 HL.o) (ah _)).fC (k:=m) (by rw[dy,HK.t7];omega);injection Xo with Xo
             injection Xo with Xv e2'
             subst Xv;subst e2';obtain⟨p,hp⟩:∃p,nd.kids[m]?=O p:=⟨_,af (by have :=HK.t7;omega)⟩
             have hpx:px=(p:Int):=by
              have :=Hp.o;unfold cV at this;rw[bQ,hp] at this;injection this with e
              exact e.symm
             subst hpx
             have s4:((p:Int)==(k:Int))=false:=by have :=HD.o p hp ar;rw[beq_eq_false_iff_ne];exact this
             have t4:¬p=k:=by rw[beq_eq_false_iff_ne] at s4;omega
             have s4n:(p==k)=false:=by rw[beq_eq_false_iff_ne];exact t4
             have s4d:decide (p=k)=false:=decide_eq_false t4;have s3n:decide (0<m+1)=true:=decide_eq_true ar;clear hp Hp;have s5:decide ((0:Int)<(BN.kids.length:Int))=true:=decide_eq_true z1;have s6:decide ((BN.attr:Int)<=(nd.attr:Int))=false:=decide_eq_false z2;have z3:0<BN.kids.length:=ar;have z4:¬BN.attr<=nd.attr:=ar;have s5n:decide (0<BN.kids.length)=true:=decide_eq_true z3;have s6n:decide (BN.attr<=nd.attr)=false:=decide_eq_false z4;go_wp2_with fail;refine bJ wB aV aV ?_;repeat(go_big_quiet_step (fail))
             refine wpQuiet_nil (λ v=>?_);go_wp2_with fail;go_roundw
             case rel=>exact⟨m+1+1,ar,gC,Yn.o _⟩
             case measure=>simp[intOf];omega
           · as_aux_lemma=>
             have MG:¬(0:Int)<(j:Int):=ar;have s3:decide ((0:Int)<(j:Int))=false:=decide_eq_false MG;have s3n:decide (0<j)=false:=decide_eq_false hj0;have s5:decide ((0:Int)<(BN.kids.length:Int))=true:=decide_eq_true z1;have s6:decide ((BN.attr:Int)<=(nd.attr:Int))=false:=decide_eq_false z2;have z3:0<BN.kids.length:=ar;have z4:¬BN.attr<=nd.attr:=ar;have s5n:decide (0<BN.kids.length)=true:=decide_eq_true z3;have s6n:decide (BN.attr<=nd.attr)=false:=decide_eq_false z4;go_wp2_with fail;refine bJ wB aV aV ?_;repeat(go_big_quiet_step (fail))
             refine wpQuiet_nil (λ v=>?_);go_wp2_with fail;go_roundw
             case rel=>exact⟨j+1,ar,gC,Yn.o _⟩
             case measure=>simp[intOf];omega
       · as_aux_lemma=>go_wp2_with fail;go_ret;exact⟨rfl,hlw⟩
end
end Go.Proofs.YtbcpcneadjcmlaaGreatDoor
