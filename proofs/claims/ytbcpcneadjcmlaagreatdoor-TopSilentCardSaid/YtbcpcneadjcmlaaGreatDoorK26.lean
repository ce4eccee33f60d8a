import Derived.Test.YtbcpcneadjcmlaaGreatDoorK25
import Derived.IntWalk
import Derived.WalkMore
namespace Go.Proofs.YtbcpcneadjcmlaaGreatDoor
open Go.Proofs.Tryz
set_option maxRecDepth 100000
set_option maxHeartbeats 16000000
set_option linter.unusedVariables false
set_option linter.unusedSimpArgs false
open Value renaming int→I,slice→G,pointer→M
open IntKind renaming i64→J
open Obj renaming cells→D
open Option renaming some→O,none→U
open Go renaming Value→R,World→agb
open List renaming length→agh
section
open Go.RowKit Go.Maps
attribute [local go_sem] aQ aC bW
theorem ab8(w:agb)(n:Int)(h1:0<=n)(h2:n<=10000):Calls prog 131 #[I J n] w (jL (.bool false) w):=by have h3:¬n<0:=ar;have h4:¬10000<n:=ar;go_enter func131,ntmps131;go_wp2_with fail;go_ret;exact⟨rfl,aA _ _⟩
theorem ab9(A:dB)(cs:List Int)(cap:Nat)(w:agb)(h:ic dr w A cs)(hl:cs.length<=9223372036854775807)(hc:∀c∈cs,0<=c/\c<=10000):
 Calls prog 44 #[G A cs.length cap,.func (.func 131) #[] #[]] w (jL (I J (-1)) w):=by
 have HH:=dt h hc;clear h hc;go_enter func44,ntmps44;go_wp2_with fail;go_loopw [8] (λ i wr=>∃j:Nat,j<=cs.length/\i=I J j/\aZ w wr) (λ i _=>cs.length - (intOf i).toNat)
 case atStart=>exact⟨0,ak _,rfl,aA _ _⟩
 case round=>
  obtain⟨j,hj,rfl,bI⟩:=hrel;generalize wr=wA at *;by_cases hlt:j<cs.length
  · as_aux_lemma=>
    have rE:(j:Int)<(cs.length:Int):=ar;obtain⟨b,off,c,rfl,hb,_,Hc,d0,f1,f2⟩:=(HH.q1.keep bI (ah _)).fC hlt;have hbl:b<wA.heap.size:=by have :=bI.size;omega
    have kK:c∈cs:=az Hc.o;have hcc:=HH.t1 c kK;have HC:=dt (ab8 wA c hcc.1 hcc.2) bI;clear hcc kK bI;go_wp2_with (go_at_call 131;refine HC.q1.mono ?_;rintro e w3 ⟨rfl,hb3⟩;have H3:=aG hb3;clear hb3);go_roundw
    case rel=>exact⟨j+1,ar,gC,aq HC.t1 H3.o⟩
    case measure=>simp[intOf];omega
  · as_aux_lemma=>obtain rfl:j=cs.length:=ar;have HC:=aG bI;clear bI;go_wp2_with fail;go_ret;exact⟨rfl,HC.o⟩
theorem aca(A:dB)(cs:List Int)(cap:Nat)(w:agb)(h:ic dr w A cs)(hl:cs.length<=9223372036854775807)(hc:∀c∈cs,0<=c/\c<=10000):
 Calls prog 99 #[G A cs.length cap,.func (.func 131) #[] #[]] w (jL (.bool false) w):=by
 have HC:=aG (ab9 A cs cap w h hl hc);clear h hc;go_enter func99,ntmps99;go_wp2_with (go_at_call 44;refine HC.o.mono ?_;rintro e w3 ⟨rfl,hb3⟩;have H3:=aG hb3;clear hb3);go_ret;exact⟨rfl,H3.o⟩
theorem rY(b cap:Nat)(cs:List Int)(w:agb)(n:Nat)(hn:cs.length=n)(h:∀i v,(cs.map (Value.int .i64))[i]?=O v->w.cell? ⟨b,i,U⟩=O v)(hb:b<w.heap.size)(hl:cs.length<=1000)(hc:∀c∈cs,0<=c/\c<=10000):
 Calls prog 66 #[G (O ⟨b,0,U⟩) n cap] w (jL (.bool true) w):=by
 subst hn
 have he:ic dr w (O ⟨b,0,U⟩) cs:=λ i hi=>by
  have :=hc _ (cD hi);refine⟨b,0,[I J cs[i]],rfl,hb,⟨rfl,ar,ar⟩,λ j u hu=>?_⟩;have hj:j=0:=by have :=(ai.1 hu).1;simp at this;omega
  subst hj;simp only[jH,cQ] at hu;subst hu;have e:0+i*dr.n+0=i:=by show 0+i*1+0=i;omega
  rw[e];exact h i _ (by simp[hi])
 have HC:=aG (aca (O ⟨b,0,U⟩) cs cap w he ar hc);clear h hc he;go_enter func66,ntmps66;go_wp2_with (go_at_call 99;refine HC.o.mono ?_;rintro e w3 ⟨rfl,hb3⟩;have H3:=aG hb3;clear hb3);go_ret;exact⟨rfl,H3.o⟩
theorem s8(w:agb)(a b c d x y:Int)(r:Bool)(hr:(decide (a<=x)&&(decide (x<=c)&&(decide (b<=y)&&decide (y<=d))))=r):
 Calls prog 136 #[.agg #[I J a,I J b,I J c,I J d],I J x,I J y] w (jL (.bool r) w):=by
 subst hr;go_enter func136,ntmps136;by_cases h1:a<=x
 · by_cases h2:x<=c
   · by_cases h3:b<=y
     · by_cases h4:y<=d
       · rw[decide_eq_true h1,decide_eq_true h2,decide_eq_true h3,decide_eq_true h4]
         go_wp2_with fail;go_ret;exact⟨rfl,dE⟩
       · rw[decide_eq_true h1,decide_eq_true h2,decide_eq_true h3,decide_eq_false h4]
         go_wp2_with fail;go_ret;exact⟨rfl,dE⟩
     · rw[decide_eq_true h1,decide_eq_true h2,decide_eq_false h3]
       go_wp2_with fail;go_ret;exact⟨rfl,dE⟩
   · rw[decide_eq_true h1,decide_eq_false h2]
     go_wp2_with fail;go_ret;exact⟨rfl,dE⟩
 · rw[decide_eq_false h1]
   go_wp2_with fail;go_ret;exact⟨rfl,dE⟩
theorem KX(w:agb)(a b c d a' b' c' d':Int)(h1:max a a'<=min c c')(h2:max b b'<=min d d'):
 Calls prog 139 #[.agg #[I J a,I J b,I J c,I J d],.agg #[I J a',I J b',I J c',I J d']] w (jL (.bool true) w):=by
 go_enter func139,ntmps139;go_wp2_with fail;go_ret;exact⟨rfl,dE⟩
theorem Vi(w:agb)(a b c d:Int)(h:∀z∈ [a,b,c,d],0<=z/\z<=10000)(h1:a<=c)(h2:b<=d):
 Calls prog 118 #[.agg #[I J a,I J b,I J c,I J d]] w (jL (.bool true) w):=by
 have HH:=aG h;clear h;go_enter func118,ntmps118
 go_wp2_with (go_at_call 66;refine(rY _ _ [a,b,c,d] _ 4 rfl (by
  intro i v hv;match i,hv with
  |0,hv=>cases hv;simp[go_sem]
  |1,hv=>cases hv;simp[go_sem]
  |2,hv=>cases hv;simp[go_sem]
  |3,hv=>cases hv;simp[go_sem]) bY bY HH.o).mono ?_;rintro e w3 ⟨rfl,hb3⟩;have H3:=aG hb3;have c0:=(hb3.cell (p:=⟨w.heap.size,0,U⟩) gW);have c1:=(hb3.cell (p:=⟨w.heap.size,1,U⟩) gW);have c2:=(hb3.cell (p:=⟨w.heap.size,2,U⟩) gW);have c3:=(hb3.cell (p:=⟨w.heap.size,3,U⟩) gW);simp[go_sem] at c0 c1 c2 c3;clear hb3)
 go_ret;exact⟨rfl,aq dE H3.o⟩
end
section
def Tryz.u3:Go.Shelf.Ren:=⟨λ |4=>176|n=>n,λ |22=>82|25=>169|n=>n,λ n=>n⟩
theorem Tryz.Er:Go.Proofs.Lays8.n4 prog Tryz.u3:={
 mixed:=aV
 f4:=⟨Tryz.f176.name,cj,func176.trans (congrArg O aV)⟩
 t0:=nH
 a0:=Tryz.isAgg0
 z0:=Tryz.sizeOf0
 v0:=Tryz.zeroValue0
 t3:=aJ
 a3:=Tryz.isAgg3
 z3:=Tryz.sizeOf3
 v3:=Tryz.zeroValue3
 t4:=dW
 a4:=Tryz.isAgg4
 z4:=Tryz.sizeOf4
 v4:=Tryz.zeroValue4
 t9:=bn
 a9:=Tryz.isAgg9
 z9:=Tryz.sizeOf9
 v9:=Tryz.zeroValue9
 t20:=vo
 a20:=Tryz.isAgg20
 z20:=Tryz.sizeOf20
 v20:=Tryz.zeroValue20
 t22:=vp
 a22:=Tryz.isAgg82
 z22:=Tryz.sizeOf82
 v22:=Tryz.zeroValue82}
open Go.RowKit Go.Maps
attribute [local go_sem] aQ aC bW
abbrev Bq:=Int×Int×Int×Int
abbrev Wn:Ty Bq:=fy dr (fy dr (fy dr dr))
theorem acb(w:agb)(B:Nat)(cs:List R)(x:Bq)(h:Wn.rd w B cs x):∀u∈cs,u.oneCell'=true:=by obtain⟨c1,r1,rfl,⟨rfl,_⟩,⟨c2,r2,rfl,⟨rfl,_⟩,⟨c3,r3,rfl,⟨rfl,_⟩,⟨rfl,_⟩⟩⟩⟩:=h;intro u hu;simp only[eU,eV,aR,bH,or_false] at hu;rcases hu with rfl|rfl|rfl|rfl<;>rfl
theorem QK(n:Nat)(w:agb)(hn:n<=1000000):Calls prog 176 #[G U 0 0,I J n] w λ e w'=>∃A c,e=.returned (G A 0 c)/\cH Wn 169 w' w.heap.size w.heap.size (G A 0 c) []/\aZ w w':=by
 rcases gO n with rfl|h0
 · refine(Any8.slices_Grow_room Tryz.Er U 0 0 0 w (ah _) ar ar ar).mono ?_
   rintro e w' ⟨rfl,rfl⟩;exact⟨U,0,rfl,cH.nil,aA _ _⟩
 · obtain⟨i0,z0,Q6,hz0,hs0,hb0,T7⟩:=kU (P:=prog) (e:=169) (size:=4) (bytes:=32) (c:=4) aV
   refine(Any8.slices_Grow_grow Tryz.Er i0 z0 Q6 hz0 ar U 0 0 n [] w (ah _) ar (by rw[hb0];omega) ar bY (λ _=>rfl) (λ a h=>by cases h)).mono ?_;rintro e w' ⟨rfl,rfl⟩;obtain⟨aaf,hG⟩:∃aaf,grownCap w (0+n) 0 (Tryz.u3.t 25)=aaf:=⟨_,rfl⟩;have h1:=grownCap_ge w (0+n) 0 (Tryz.u3.t 25);have h2:=grownCap_le_maxLen w (0+n) 0 (Tryz.u3.t 25) (by unfold maxLen;omega);rw[hG] at h1 h2⊢;refine⟨_,aaf,rfl,⟨[],rfl,(λ i h1 h2=>absurd h2 bY),bY,.inr ⟨w.heap.size,aaf,_,rfl,ah _,au _ _ _ _ rfl,bY,h2,?_,bY⟩⟩,ay (aA _ _).drew _⟩
   have hz:∀k,(Builtin.zeroCells z0.cells k).size=k*4:=λ k=>by have :=size_zeroCells z0.cells k;rw[T7] at this;exact this
   rw[Array.size_append,Array.size_append,hz,hz];show 0+_+_=aaf*4;omega
theorem KY{w:agb}{B:Nat}{A:dB}{lO:List (List Bq)}(h:cG (eF Wn) w B A lO){k:Nat}(hk:k<lO.length):
 ∃b off A' qs c,A=O ⟨b,off,U⟩/\b<B/\Hid (lO[k]?=O qs)/\w.cell? ⟨b,off+k,U⟩=O (G A' qs.length c)/\Hid (cG Wn w B A' qs):=by
 obtain⟨b,off,qs,cs,hA,hb,_,hx,_,⟨A',c,rfl,_,_,h5⟩,hc⟩:=h.pick hk;exact⟨b,off,A',qs,c,hA,hb,hx,by simpa [eF] using hc 0 _ rfl,h5⟩
theorem KZ(A:dB)(lO:List (List Bq))(cap:Nat)(w:agb)(h:ic (eF Wn) w A lO)(hl:lO.length<=1000)(hf:lO.flatten.length<=1000000):
 Calls prog 115 #[G A lO.length cap] w λ e w'=>∃A' c,e=.returned (G A' lO.flatten.length c)/\cH Wn 169 w' w.heap.size w.heap.size (G A' lO.flatten.length c) lO.flatten/\aZ w w':=by
 have hle:=OG lO;have HH:=fH h hle hf;have hlI:(lO.length:Int)<=1000:=ar;clear h hle hf;go_enter func115,ntmps115;go_wp2_with fail;go_loopw [3,11] (λ s i wr=>∃j:Nat,j<=lO.length/\i=I J j/\s=I J ((lO.take j).flatten.length:Nat)/\w=wr) (λ _ i _=>lO.length - (intOf i).toNat)
 case atStart=>exact⟨0,ak _,rfl,rfl,rfl⟩
 case round=>
  obtain⟨j,hj,rfl,rfl,rfl⟩:=hrel;by_cases hlt:j<lO.length
  · as_aux_lemma=>
    have rE:(j:Int)<(lO.length:Int):=ar;obtain⟨b,off,A',qs,c,rfl,hb,Hx,e0,-⟩:=KY HH.q1 hlt;have hs:=uZ Hx.o;have k1:=HH.q2 (j+1);have k2:=HH.t2;have hs2:=congrArg agh hs;rw[ax] at hs2;obtain⟨m,hm⟩:∃m,(lO.take j).flatten.length=m:=⟨_,rfl⟩;obtain⟨aai,hM⟩:∃m,(lO.take (j+1)).flatten.length=m:=⟨_,rfl⟩;have HM:=aG hM;rw[hm,hM] at hs2;rw[hM] at k1;have hmI:(m:Int)+(qs.length:Int)<=1000000:=ar;have HS:=aG hs2;have hm0:(0:Int)<=(m:Int)+(qs.length:Int):=ar;rw[hm];clear hs hs2 k1 k2 hM hm;go_wp2_with fail;go_roundw
    case rel=>exact⟨j+1,ar,bY,by rw[HM.o,HS.o];simp,by trivial⟩
    case measure=>simp[intOf];omega
  · as_aux_lemma=>
    obtain rfl:j=lO.length:=ar;rw[aX];have hn:=HH.t2;obtain⟨n,kT⟩:∃n,lO.flatten.length=n:=⟨_,rfl⟩;rw[kT] at hn⊢;have HN:=aG kT;clear kT;go_upto_region 11 with(go_at_call 176;refine(QK n _ ar).mono ?_;rintro e w2 ⟨A2,c2,rfl,k1,k2⟩;have H2:=dt k1 k2;clear k1 k2);go_loopw [27,6] (λ i s wr=>∃(j:Nat) (A':dB) (c':Nat),j<=lO.length/\i=I J j/\s=G A' (lO.take j).flatten.length c'/\cH Wn 169 wr w.heap.size w.heap.size (G A' (lO.take j).flatten.length c') (lO.take j).flatten/\aZ w wr) (λ i _ _=>lO.length - (intOf i).toNat)
    case atStart=>exact⟨0,A2,c2,ak _,rfl,rfl,H2.q1,H2.t1⟩
    case round=>
     obtain⟨j,A',c',hj,rfl,rfl,hown,bI⟩:=hrel;generalize wr=wA at *;by_cases hlt:j<lO.length
     · as_aux_lemma=>
       have rE:(j:Int)<(lO.length:Int):=ar;obtain⟨b,off,A3,qs,c3,rfl,hb,Hx,e0,he⟩:=KY (HH.q1.keep bI bI.size) hlt;have hs:=uZ Hx.o;have k1:=HH.q2 (j+1);have k2:=HH.t2;have hs2:=congrArg agh hs;rw[ax] at hs2;obtain⟨css,f1,f2,f3,f4,f5⟩:=he.o.flat;obtain⟨os,hos⟩:∃os,(lO.take j).flatten=os:=⟨_,rfl⟩;obtain⟨ns,hns⟩:∃os,(lO.take (j+1)).flatten=os:=⟨_,rfl⟩;rw[hos] at hown hs2 hs⊢;rw[hns] at k1 hs2 hs;have HA:=yK hown bI f1 f2 f5 hs hns (show os.length+qs.length<=1000000 from ar);have hbl:b<wA.heap.size:=hb;clear hown bI f1 f2 f3 f4 f5 hs hs2 hns hos k1 k2 H2 he Hx;go_wp2_with (at_builtin;go_loud (refine en (T:=Wn) (e:=169) (base:=w.heap.size) (B:=w.heap.size) (qs:=os) rfl _ _ 82 rfl 32 vp aV cj acb rfl HA.q1 A3 qs.length c3 qs css rfl rfl HA.q3 (λ i h1 h2=>HA.q4 i h1 h2) (uJ HA.q5 (aA _ _)) (by have :=HA.t7;unfold maxLen;omega) (by have :=HA.t7;omega) HA.q2.size (ah _) ?_);intro A9 c9 w9 iO kY E2 kT;have H9:=dt iO kY;clear iO kY E2 kT);go_roundw
       case rel=>
        have h:=H9.q1;refine⟨j+1,A9,c9,ar,bY,?_,?_,HA.q2.trans H9.t1⟩
        · rw[HA.q7,HA.q6,ax]
        · rw[HA.q7,HA.q6,ax]
          exact h
       case measure=>simp[intOf];omega
     · as_aux_lemma=>obtain rfl:j=lO.length:=ar;rw[aX] at hown⊢;have HA:=dt hown bI;clear hown bI H2;go_wp2_with fail;go_ret;exact⟨A',c',rfl,HA.q1,HA.t1⟩
end
section
open Go.RowKit
attribute [local go_sem] aQ aC bW
structure Hx where
 gl:Nat
 g2:Nat
 gr:Nat
 g3:Nat
 g4:Nat
 g6:Nat
 cl:Nat
 c2:Nat
 cr:Nat
 c3:Nat
 c4:Nat
 c6:Nat
abbrev oY(H:Hx):Array R:=#[.string ⟨#[108,111,119]⟩,I J 0,G (O ⟨H.g2,0,U⟩) 1 H.c2,G (O ⟨H.g3,0,U⟩) 1 H.c3,G (O ⟨H.g4,0,U⟩) 1 H.c4,G U 0 0,G (O ⟨H.g6,0,U⟩) 1 H.c6,I J 19]
abbrev QL(H:Hx):Array R:=#[.string ⟨#[98]⟩,G (O ⟨H.gr,0,U⟩) 1 H.cr,I J 69]
abbrev E8:Array R:=#[I J 10,I J 0,I J 18,I J 30]
abbrev doC:Array R:=#[I J 10,I J 0]
abbrev yM(H:Hx):Array R:=#[.string ⟨#[104]⟩,I J 0,I J 0,G (O ⟨H.gl,0,U⟩) 1 H.cl]
def gp(X:agb)(g:Nat)(C:Array R):Prop:=g<X.heap.size/\∀i v,C[i]?=O v->X.cell? ⟨g,i,U⟩=O v
theorem gp.keep{X X':agb}{g:Nat}{C:Array R}(h:gp X g C)(hb:aZ X X'):gp X' g C:=
 ⟨dI h.1 hb.size,λ i v e=>(hb.cell (p:=⟨g,i,U⟩) h.1).trans (h.2 i v e)⟩
theorem gp.only{S:Nat->Prop}{X X':agb}{g:Nat}{C:Array R}(h:gp X g C)(hb:Only S X X')(hn:¬S g):gp X' g C:=
 ⟨dI h.1 hb.size,λ i v e=>(World.cell?_of_block (a:=⟨g,i,U⟩) (hb.block g h.1 hn)).trans (h.2 i v e)⟩
theorem gp.pV{X:agb}{g:Nat}{C:Array R}{t:TypeId}(h:Bk X g C t):gp X g C:=⟨h.lt,λ i v e=>(h.cell i).trans e⟩
theorem gp.off{X:agb}{g:Nat}{C:Array R}(h:gp X g C):∀i v,C[i]?=O v->X.cell? ⟨g,0+i,U⟩=O v:=λ i v e=>by rw[bX];exact h.2 i v e
theorem qP{X:agb}{lo:Nat}{e:TypeId}{size n:Nat}{v:R}{xs:List R}(h:X.ownsRow lo e size v (n+1) xs)(hs:0<size):∃g c,v=G (O ⟨g,0,U⟩) (n+1) c/\lo<=g/\gp X g xs.toArray:=by
 obtain⟨hl,⟨rfl,hn⟩|⟨g,cap,cur,rfl,hg,hb,h1,h2,h3,h4⟩⟩:=h
 · omega
 · have hb':Bk X g cur e:=hb
   refine⟨g,cap,rfl,hg,hb'.lt,λ i u e=>(hb'.cell i).trans ?_⟩;have e2:xs[i]?=O u:=by simpa using e
   rw[<-h4,gP] at e2;split at e2
   · simpa using e2
   · cases e2
structure fS(H:Hx)(X:agb):Prop where
 l:gp X H.gl (oY H)
 b:gp X H.g2 (QL H)
 r:gp X H.gr fT
 a:gp X H.g3 (qW 2)
 x:gp X H.g4 E8
 d:gp X H.g6 doC
 c:1<=H.c4/\H.c4<=maxLen
theorem fS.keep{H:Hx}{X X':agb}(h:fS H X)(hb:aZ X X'):fS H X':=⟨h.l.keep hb,h.b.keep hb,h.r.keep hb,h.a.keep hb,h.x.keep hb,h.d.keep hb,h.c⟩
section
variable(w:agb)(s:BA0)
theorem agi(b:Nat)(x1 x2 x3 x4 x5 x6 x7:R)(h:w.cell? ⟨b,0,U⟩=O (.string s)):
 Calls prog 114 #[.agg #[.string s,x1,x2,x3,x4,x5,x6,x7],M (O ⟨b,0,U⟩)] w (jL (.bool true) w):=by
 have lb:=World.block_lt_of_cell? _ _ h;go_enter func114,ntmps114;go_wp2_with fail;go_ret;exact⟨rfl,dE⟩
theorem acd(b:Nat)(x1 x2 x3 x4 x5 x6 x7:R)(h:w.cell? ⟨b,0,U⟩=O (.string s)):
 Calls prog 124 #[.agg #[.string s,x1,x2,x3,x4,x5,x6,x7],M (O ⟨b,0,U⟩)] w (jL (.bool true) w):=by
 have lb:=World.block_lt_of_cell? _ _ h;go_enter func124,ntmps124;go_wp2_with fail;go_ret;exact⟨rfl,dE⟩
theorem agj(b:Nat)(x1 x2 x3 x4 x5 x6:R)(h:w.cell? ⟨b,0,U⟩=O (.string s)):
 Calls prog 129 #[.agg #[.string s,x1,x2,x3,x4,x5,x6],M (O ⟨b,0,U⟩)] w (jL (.bool true) w):=by
 have lb:=World.block_lt_of_cell? _ _ h;go_enter func129,ntmps129;go_wp2_with fail;go_ret;exact⟨rfl,dE⟩
theorem agk(b:Nat)(s':BA0)(x1 x2:R)(hn:(s'.toList==s.toList)=false)(h:w.cell? ⟨b,0,U⟩=O (.string s)):
 Calls prog 127 #[.agg #[.string s',x1,x2],M (O ⟨b,0,U⟩)] w (jL (.bool false) w):=by
 have lb:=World.block_lt_of_cell? _ _ h;go_enter func127,ntmps127;go_wp2_with fail;go_ret;exact⟨rfl,dE⟩
theorem agl(ba bi g c:Nat)(x1 x2:R)(h0:w.cell? ⟨ba,0,U⟩=O (G (O ⟨g,0,U⟩) 1 c))(h1:w.cell? ⟨bi,0,U⟩=O (I J 0))(h:w.cell? ⟨g,0,U⟩=O (.string s)):
 Calls prog 122 #[.agg #[.string s,x1,x2],M (O ⟨ba,0,U⟩),M (O ⟨bi,0,U⟩)] w (jL (.bool true) w):=by
 have lb:=World.block_lt_of_cell? _ _ h;have l0:=World.block_lt_of_cell? _ _ h0;have l1:=World.block_lt_of_cell? _ _ h1;go_enter func122,ntmps122;go_upto_region 1 with fail;refine bJ _ aV aV ?_;repeat(go_big_quiet_step (fail))
 refine wpQuiet_nil (λ v=>?_);go_wp2_with fail;go_ret;exact⟨rfl,dE⟩
end
end
section
open Go.RowKit Go.Shelf
attribute [local go_sem] aQ aC bW
theorem gp.pn{X Y:agb}{g:Nat}{C:Array R}(h:gp X g C)(hY:aZ X Y){i:Nat}{v:R}(e:C[i]?=O v):Y.cell? ⟨g,i,U⟩=O v:=(h.keep hY).2 i v e
section
variable(X:agb)(H:Hx)
theorem ace(h:fS H X)(lb:Nat)(hl:gp X lb (oY H)):Calls prog 113 #[G (O ⟨H.gl,0,U⟩) 1 H.cl,.func (.func 114) #[] #[M (O ⟨lb,0,U⟩)]] X (jL (I J 0) X):=
 M5 X H.gl 0 H.cl 114 #[M (O ⟨lb,0,U⟩)] (.string ⟨#[108,111,119]⟩) (I J 0) (G (O ⟨H.g2,0,U⟩) 1 H.c2) (G (O ⟨H.g3,0,U⟩) 1 H.c3) (G (O ⟨H.g4,0,U⟩) 1 H.c4) (G U 0 0) (G (O ⟨H.g6,0,U⟩) 1 H.c6) (I J 19) true 0 (.inl ⟨rfl,rfl⟩) h.l.1 h.l.off
  ⟨enters_of func114 aV rfl,λ Y hY=>agi Y _ lb _ _ _ _ _ _ _ (hl.pn hY rfl)⟩
theorem acf(h:fS H X)(ba bi:Nat)(h0:gp X ba #[G (O ⟨H.g2,0,U⟩) 1 H.c2])(h1:gp X bi #[I J 0]):Calls prog 121 #[G (O ⟨H.g2,0,U⟩) 1 H.c2,.func (.func 122) #[] #[M (O ⟨ba,0,U⟩),M (O ⟨bi,0,U⟩)]] X (jL (I J 0) X):=
 Eo X H.g2 0 H.c2 122 #[M (O ⟨ba,0,U⟩),M (O ⟨bi,0,U⟩)] (.string ⟨#[98]⟩) (G (O ⟨H.gr,0,U⟩) 1 H.cr) (I J 69) true 0 (.inl ⟨rfl,rfl⟩) h.b.1 h.b.off
  ⟨enters_of func122 aV rfl,λ Y hY=>agl Y _ ba bi H.g2 H.c2 _ _ (h0.pn hY rfl) (h1.pn hY rfl) (h.b.pn hY rfl)⟩
theorem YI(h:fS H X)(rb:Nat)(h0:gp X rb fT):Calls prog 123 #[G (O ⟨H.gr,0,U⟩) 1 H.cr,.func (.func 124) #[] #[M (O ⟨rb,0,U⟩)]] X (jL (I J 0) X):=
 Vc X H.gr 0 H.cr 124 #[M (O ⟨rb,0,U⟩)] (.string ⟨#[114]⟩) (I J 20) (I J 5) (I J 1) (I J 3) (I J 2) (G U 0 0) (I J 79) true 0 (.inl ⟨rfl,rfl⟩) h.r.1 h.r.off
  ⟨enters_of func124 aV rfl,λ Y hY=>acd Y _ rb _ _ _ _ _ _ _ (h0.pn hY rfl)⟩
theorem acg(h:fS H X)(ab:Nat)(h0:gp X ab (qW 2)):Calls prog 128 #[G (O ⟨H.g3,0,U⟩) 1 H.c3,.func (.func 129) #[] #[M (O ⟨ab,0,U⟩)]] X (jL (I J 0) X):=
 QI X H.g3 0 H.c3 129 #[M (O ⟨ab,0,U⟩)] (.string ⟨#[115]⟩) (I J 18) (I J 20) (I J 28) (I J 24) (I J 2) (I J 116) true 0 (.inl ⟨rfl,rfl⟩) h.a.1 h.a.off
  ⟨enters_of func129 aV rfl,λ Y hY=>agj Y _ ab _ _ _ _ _ _ (h0.pn hY rfl)⟩
theorem YJ(h:fS H X)(ab:Nat)(h0:gp X ab (qW 2)):Calls prog 121 #[G (O ⟨H.g2,0,U⟩) 1 H.c2,.func (.func 127) #[] #[M (O ⟨ab,0,U⟩)]] X (jL (I J (-1)) X):=
 Eo X H.g2 0 H.c2 127 #[M (O ⟨ab,0,U⟩)] (.string ⟨#[98]⟩) (G (O ⟨H.gr,0,U⟩) 1 H.cr) (I J 69) false (-1) (.inr ⟨rfl,rfl⟩) h.b.1 h.b.off
  ⟨enters_of func127 aV rfl,λ Y hY=>agk Y ⟨#[115]⟩ ab ⟨#[98]⟩ _ _ (by rw[ByteArray.toList_eq,ByteArray.toList_eq];decide) (h0.pn hY rfl)⟩
end
theorem Vj(w:agb):Calls prog 117 #[.agg E8] w (jL (.bool false) w):=by go_enter func117,ntmps117;go_wp2_with (go_at_call 118;refine(Vi _ 10 0 18 30 cj cj cj).mono ?_;rintro e w3 ⟨rfl,hb3⟩;have H3:=aG hb3;clear hb3);go_ret;exact⟨rfl,aq dE H3.o⟩
theorem QM(w:agb):Calls prog 120 #[.agg doC] w (jL (.bool false) w):=by
 go_enter func120,ntmps120
 go_wp2_with (go_at_call 66;refine(rY _ _ [10,0] _ 2 rfl (by
  intro i v hv;match i,hv with
  |0,hv=>cases hv;simp[go_sem]
  |1,hv=>cases hv;simp[go_sem]) bY cj cj).mono ?_;rintro e w3 ⟨rfl,hb3⟩;have H3:=aG hb3;clear hb3)
 go_ret;exact⟨rfl,aq dE H3.o⟩
theorem YK(X:agb)(g c:Nat)(h:gp X g E8):Calls prog 116 #[G (O ⟨g,0,U⟩) 1 c,.func (.func 117) #[] #[]] X (jL (.bool false) X):=
 KW X g 0 c 117 #[] (I J 10) (I J 0) (I J 18) (I J 30) false h.1 h.off ⟨enters_of func117 aV rfl,λ Y _=>Vj Y⟩
theorem Vk(X:agb)(g c:Nat)(h:gp X g doC):Calls prog 119 #[G (O ⟨g,0,U⟩) 1 c,.func (.func 120) #[] #[]] X (jL (.bool false) X):=
 Ep X g 0 c 120 #[] (I J 10) (I J 0) false h.1 h.off ⟨enters_of func120 aV rfl,λ Y _=>QM Y⟩
theorem Vm(X:agb)(H:Hx)(sb c:Nat)(h:fS H X)(hs:gp X sb #[G (O ⟨H.g4,0,U⟩) 1 H.c4,G U 0 0]):
 Calls prog 115 #[G (O ⟨sb,0,U⟩) 2 c] X λ e w'=>(∃g c,e=.returned (G (O ⟨g,0,U⟩) 1 c)/\gp w' g E8)/\aZ X w':=by
 have hr:Wn.rd X X.heap.size E8.toList (10,0,18,30):=⟨[_],_,rfl,⟨rfl,cj⟩,[_],_,rfl,⟨rfl,cj⟩,[_],[_],rfl,⟨rfl,cj⟩,⟨rfl,cj⟩⟩
 have he:ic (eF Wn) X (O ⟨sb,0,U⟩) [[(10,0,18,30)],[]]:=by
  intro i hi;match i,hi with
  |0,_=>
   refine⟨sb,0,[_],rfl,hs.1,⟨O ⟨H.g4,0,U⟩,H.c4,rfl,h.c.1,h.c.2,λ j hj=>?_⟩,λ j u hu=>?_⟩
   · obtain rfl:j=0:=by simpa using hj
     refine⟨H.g4,0,E8.toList,rfl,h.x.1,hr,λ j u hu=>?_⟩;have :=h.x.2 j u (by simpa using hu);simpa using this
   · have hj:j=0:=by have :=(ai.1 hu).1;simp at this;omega
     subst hj;cases hu
     exact hs.2 0 _ rfl
  |1,_=>
   refine⟨sb,0,[_],rfl,hs.1,⟨U,0,rfl,ah _,cj,λ j hj=>absurd hj bY⟩,λ j u hu=>?_⟩;have hj:j=0:=by have :=(ai.1 hu).1;simp at this;omega
   subst hj;cases hu
   exact hs.2 1 _ rfl
 refine(KZ _ [[(10,0,18,30)],[]] c X he cj cj).mono ?_;rintro e w' ⟨A',c',rfl,hO,hb⟩;obtain⟨css,h1,h2,h3⟩:=hO;obtain⟨g,c2,e2,_,hl⟩:=qP (n:=0) h3 cj;cases e2
 refine⟨⟨g,c',rfl,?_⟩,hb⟩;have mW:css.length=1:=h1
 obtain⟨cs,rfl⟩:∃cs,css=[cs]:=by
  match css,mW with
  |[cs],_=>exact⟨cs,rfl⟩
 have hr:=h2 0 bY bY;obtain⟨_,_,e1,⟨rfl,_⟩,_,_,rfl,⟨rfl,_⟩,_,_,rfl,⟨rfl,_⟩,⟨rfl,_⟩⟩:=hr;simp only[List.getElem_cons_zero] at e1;subst e1;exact hl
end
section
open Go.RowKit
attribute [local go_sem] aQ aC bW
theorem Vn{P:Program}(w:agb)(ts:Array TypeId)(t:TypeId)(k1 k2 k3 k4:IntKind)(x y z u:Int):(Builtin.max_ ts t #[.int k1 x,.int k2 y,.int k3 z,.int k4 u]).run P w=.ok (.int k1 (if u > (if z > (if y > x then y else x) then z else(if y > x then y else x)) then u else(if z > (if y > x then y else x) then z else(if y > x then y else x)))) w:=by simp[Builtin.max_,Builtin.max2]
attribute [local go_sem] Vn
abbrev Rp(H:Hx):Array R:=#[.string ⟨#[104]⟩,I J 0,I J 0,G (O ⟨H.gl,0,U⟩) 1 H.cl,G U 0 0]
theorem Vo(W:agb)(H:Hx)(cb:Nat)(h:fS H W)(hc:Bk W cb (Rp H) 156):
 Calls prog 60 #[M (O ⟨cb,0,U⟩),I J 0] W λ r W'=>(∃v,r=.returned v)/\aZ W W':=by
 have v0:=h.l.2 0 _ rfl;have v1:=h.l.2 1 _ rfl;have v2:=h.l.2 2 _ rfl;have v3:=h.l.2 3 _ rfl;have v4:=h.l.2 4 _ rfl;have v5:=h.l.2 5 _ rfl;have v6:=h.l.2 6 _ rfl;have v7:=h.l.2 7 _ rfl;have vg:=h.l.1;have q3:=hc.cell 3;have lc:=hc.lt;have HH:=dt h hc;clear h hc;go_enter func60,ntmps60;go_upto_region 1 with fail;clear v0 v1 v2 v3 v4 v5 v6 v7 vg;clear q3 lc;obtain⟨lb,oy⟩:∃x,W.heap.size=x:=⟨_,rfl⟩;obtain⟨X,hX⟩:∃X,W.alloc (D (oY H) 85)=X:=⟨_,rfl⟩;have yY:aZ W X:=by rw[<-hX];exact aj _ _
 have hLX:gp X lb (oY H):=by rw[<-hX];exact .pV (au _ _ _ _ oy)
 have hHX:=HH.q1.keep yY;have hCX:=HH.t1.below yY;rw[hX,oy];have HX:=fH hHX hLX yY;have q3:=hCX.cell 3;have lc:=hCX.lt;clear hX hLX hHX hCX yY HH oy;go_upto_region 2 with(go_at_call 113;with_reducible refine(ace X H HX.q1 lb HX.q2).mono ?_;rintro e X1 ⟨rfl,hb⟩;have H1:=fH (HX.q1.keep hb) (HX.q2.keep hb) (HX.t2.trans (hb.mono HX.t2.size));clear hb);clear q3 lc;have hl:=H1.q2;have v0:=hl.2 0 _ rfl;have v1:=hl.2 1 _ rfl;have v2:=hl.2 2 _ rfl;have v3:=hl.2 3 _ rfl;have v4:=hl.2 4 _ rfl;have v5:=hl.2 5 _ rfl;have v6:=hl.2 6 _ rfl;have v7:=hl.2 7 _ rfl;have vg:=hl.1;clear hl;go_upto_region 5 with(go_at_call 115;refine(Vm _ H _ _ (H1.q1.keep dE) (.pV (Bk.new _ _ _))).mono ?_;rintro e X2 ⟨⟨g,c,rfl,hg⟩,hb⟩;have hb2:aZ X1 X2:=aq dE hb;have H2:=iM (H1.q1.keep hb2) (H1.q2.keep hb2) hg (H1.t2.trans (hb2.mono H1.t2.size));clear hb hb2 hg);clear v0 v1 v2 v3 v4 v5 v6 v7 vg;have hl:=H2.q2;have v0:=hl.2 0 _ rfl;have v1:=hl.2 1 _ rfl;have v2:=hl.2 2 _ rfl;have v3:=hl.2 3 _ rfl;have v4:=hl.2 4 _ rfl;have v5:=hl.2 5 _ rfl;have v6:=hl.2 6 _ rfl;have v7:=hl.2 7 _ rfl;have vg:=hl.1;have hg:=H2.q3.1;clear hl H1 HX;go_upto_region 7 with fail;clear v0 v1 v2 v3 v4 v5 v6 v7 vg;have hl:=H2.q2;have v0:=hl.2 0 _ rfl;have v1:=hl.2 1 _ rfl;have v2:=hl.2 2 _ rfl;have v3:=hl.2 3 _ rfl;have v4:=hl.2 4 _ rfl;have v5:=hl.2 5 _ rfl;have v6:=hl.2 6 _ rfl;have v7:=hl.2 7 _ rfl;have vg:=hl.1;clear hl
 go_wp2_with (first
  |(go_at_call 66;refine(rY _ _ [0] _ 1 rfl (by
   intro i v hv;match i,hv with
   |0,hv=>cases hv;simp[go_sem]) bY bY bY).mono ?_;rintro e X3 ⟨rfl,hb⟩;have hb3:aZ X2 X3:=aq dE hb;clear v0 v1 v2 v3 v4 v5 v6 v7 vg;have hl:=H2.q2.keep hb3;have v0:=hl.2 0 _ rfl;have v1:=hl.2 1 _ rfl;have v2:=hl.2 2 _ rfl;have v3:=hl.2 3 _ rfl;have v4:=hl.2 4 _ rfl;have v5:=hl.2 5 _ rfl;have v6:=hl.2 6 _ rfl;have v7:=hl.2 7 _ rfl;have vg:=hl.1;have H3:=iM (H2.q1.keep hb3) hl (H2.q3.keep hb3) (H2.t3.trans (hb3.mono H2.t3.size));clear hb hb3 hl)
  |(go_at_call 116;(with_reducible refine(YK X3 g c H3.q3).mono ?_);rintro e X4 ⟨rfl,hb4⟩;clear v0 v1 v2 v3 v4 v5 v6 v7 vg;have hl:=H3.q2.keep hb4;have v0:=hl.2 0 _ rfl;have v1:=hl.2 1 _ rfl;have v2:=hl.2 2 _ rfl;have v3:=hl.2 3 _ rfl;have v4:=hl.2 4 _ rfl;have v5:=hl.2 5 _ rfl;have v6:=hl.2 6 _ rfl;have v7:=hl.2 7 _ rfl;have vg:=hl.1;have H4:=dt (H3.q1.keep hb4) (H3.t3.trans (hb4.mono H3.t3.size));clear hb4 hl)
  |(go_at_call 119;(with_reducible refine(Vk X4 H.g6 H.c6 H4.q1.d).mono ?_);rintro e X5 ⟨rfl,Zy⟩;have H5:=aG (H4.t1.trans (Zy.mono H4.t1.size));clear Zy))
 go_end0;exact⟨⟨_,rfl⟩,H5.o⟩
theorem Vp(W:agb)(H:Hx)(cb:Nat)(h:fS H W)(hc:Bk W cb (Rp H) 156):
 Calls prog 61 #[M (O ⟨cb,0,U⟩),I J 0,I J 0] W λ r W'=>(∃v,r=.returned v)/\aZ W W':=by
 have hl:=h.l;have v0:=hl.2 0 _ rfl;have v1:=hl.2 1 _ rfl;have v2:=hl.2 2 _ rfl;have v3:=hl.2 3 _ rfl;have v4:=hl.2 4 _ rfl;have v5:=hl.2 5 _ rfl;have v6:=hl.2 6 _ rfl;have v7:=hl.2 7 _ rfl;have vg:=hl.1;have q3:=hc.cell 3;have lc:=hc.lt;have hb:=h.b;have HH:=dt h hc;clear h hc hl hb;go_enter func61,ntmps61;go_upto_region 2 with fail;clear v0 v1 v2 v3 v4 v5 v6 v7 vg;clear q3 lc;have yY:aZ W ((W.alloc (D #[I J 0] 3)).alloc (D #[G (O ⟨H.g2,0,U⟩) 1 H.c2] 80)):=dE;obtain⟨bi,hbi⟩:∃x,W.heap.size=x:=⟨_,rfl⟩;obtain⟨ba,hba⟩:∃x,bi+1=x:=⟨_,rfl⟩;have hI:=(au W bi #[I J 0] 3 hbi).alloc (D #[G (O ⟨H.g2,0,U⟩) 1 H.c2] 80);have hA:=au (W.alloc (D #[I J 0] 3)) ba #[G (O ⟨H.g2,0,U⟩) 1 H.c2] 80 gW;rw[hbi,hba];refine forget (λ X=>fS H X/\Bk X bi #[I J 0] 3/\Bk X ba #[G (O ⟨H.g2,0,U⟩) 1 H.c2] 80/\aZ W X) ⟨HH.q1.keep yY,hI,hA,yY⟩ ?_;clear hI hA yY hbi hba HH;rintro X ⟨h1,h2,h3,h4⟩;have c2:=h2.cell 0;have l2:=h2.lt;have c3:=h3.cell 0;have l3:=h3.lt;have HX:=iM h1 h2 h3 h4;clear h1 h2 h3 h4;go_wp2_with (go_at_call 121;(with_reducible refine(acf X H HX.q1 ba bi (.pV HX.q3) (.pV HX.q2)).mono ?_);rintro e X1 ⟨rfl,hb⟩;clear c2 l2 c3 l3;have k2:=HX.q2.below hb;have k3:=HX.q3.below hb;have kb:=HX.q1.b.keep hb;have c2:=k2.cell 0;have l2:=k2.lt;have c3:=k3.cell 0;have l3:=k3.lt;have v0:=kb.2 0 _ rfl;have v1:=kb.2 1 _ rfl;have v2:=kb.2 2 _ rfl;have vg:=kb.1;have H1:=aG (HX.t3.trans (hb.mono HX.t3.size));clear hb k2 k3 kb);go_end0;exact⟨⟨_,rfl⟩,H1.o⟩
theorem YL(W:agb)(H:Hx)(cb:Nat)(h:fS H W)(hc:Bk W cb (Rp H) 156):
 Calls prog 63 #[M (O ⟨cb,0,U⟩),I J 0,I J 0] W λ r W'=>(∃v,r=.returned v)/\aZ W W':=by
 have hl:=h.l;have v0:=hl.2 0 _ rfl;have v1:=hl.2 1 _ rfl;have v2:=hl.2 2 _ rfl;have v3:=hl.2 3 _ rfl;have v4:=hl.2 4 _ rfl;have v5:=hl.2 5 _ rfl;have v6:=hl.2 6 _ rfl;have v7:=hl.2 7 _ rfl;have vg:=hl.1;have q3:=hc.cell 3;have lc:=hc.lt;have ha:=h.a;have y0:=ha.2 0 _ rfl;have y1:=ha.2 1 _ rfl;have y2:=ha.2 2 _ rfl;have y3:=ha.2 3 _ rfl;have y4:=ha.2 4 _ rfl;have y5:=ha.2 5 _ rfl;have y6:=ha.2 6 _ rfl;have yg:=ha.1;have HH:=dt h hc;clear h hc hl ha;go_enter func63,ntmps63;go_upto_region 2 with fail;clear v0 v1 v2 v3 v4 v5 v6 v7 vg;clear y0 y1 y2 y3 y4 y5 y6 yg;clear q3 lc;have yY:aZ W ((W.alloc (D (oY H) 85)).alloc (D (qW 2) 171)):=dE;obtain⟨lb,oy⟩:∃x,W.heap.size=x:=⟨_,rfl⟩;obtain⟨ab,hab⟩:∃x,lb+1=x:=⟨_,rfl⟩;have hI:=(au W lb (oY H) 85 oy).alloc (D (qW 2) 171);have hA:=au (W.alloc (D (oY H) 85)) ab (qW 2) 171 gW;rw[oy,hab];refine forget (λ X=>fS H X/\Bk X lb (oY H) 85/\Bk X ab (qW 2) 171/\aZ W X) ⟨HH.q1.keep yY,hI,hA,yY⟩ ?_;clear hI hA yY oy hab HH;rintro X ⟨h1,h2,h3,h4⟩;obtain⟨c2,l2⟩:=h2.cl0;obtain⟨c3,l3⟩:=h3.cl0;have HX:=iM h1 h2 h3 h4;clear h1 h2 h3 h4;go_upto_region 3 with(go_at_call 121;(with_reducible refine(YJ X H HX.q1 ab (.pV HX.q3)).mono ?_);rintro e X1 ⟨rfl,hb⟩;clear c2 l2 c3 l3;have k2:=HX.q2.below hb;have k3:=HX.q3.below hb;obtain⟨c2,l2⟩:=k2.cl0;obtain⟨c3,l3⟩:=k3.cl0;have H1:=iM (HX.q1.keep hb) k2 k3 (HX.t3.trans (hb.mono HX.t3.size));clear hb k2 k3);go_upto_region 4 with(go_at_call 128;(with_reducible refine(acg X1 H H1.q1 ab (.pV H1.q3)).mono ?_);rintro e X2 ⟨rfl,hb⟩;clear c2 l2 c3 l3;have k2:=H1.q2.below hb;have k3:=H1.q3.below hb;obtain⟨c2,l2⟩:=k2.cl0;obtain⟨c3,l3⟩:=k3.cl0;have H2:=iM (H1.q1.keep hb) k2 k3 (H1.t3.trans (hb.mono H1.t3.size));clear hb k2 k3);go_wp2_with (go_at_call 118;(refine(Vi _ 18 20 28 24 cj cj cj).mono ?_);rintro e X3 ⟨rfl,hb⟩;clear c2 l2 c3 l3;have k3:=H2.q3.below hb;obtain⟨c3,l3⟩:=k3.cl0;have H3:=aG (H2.t3.trans (hb.mono H2.t3.size));clear hb k3);go_end0;exact⟨⟨_,rfl⟩,H3.o⟩
theorem ach(W:agb)(H:Hx)(cb:Nat)(h:fS H W)(hc:Bk W cb (Rp H) 156):
 Calls prog 62 #[M (O ⟨cb,0,U⟩),I J 0,I J 0,I J 0] W λ r W'=>(∃v,r=.returned v)/\aZ W W':=by
 have qf:= @run_makeMap prog;have hl:=h.l;have v0:=hl.2 0 _ rfl;have v1:=hl.2 1 _ rfl;have v2:=hl.2 2 _ rfl;have v3:=hl.2 3 _ rfl;have v4:=hl.2 4 _ rfl;have v5:=hl.2 5 _ rfl;have v6:=hl.2 6 _ rfl;have v7:=hl.2 7 _ rfl;have vg:=hl.1;have q3:=hc.cell 3;have lc:=hc.lt;have hb:=h.b;have y0:=hb.2 0 _ rfl;have y1:=hb.2 1 _ rfl;have y2:=hb.2 2 _ rfl;have yg:=hb.1;have hr:=h.r;have z0:=hr.2 0 _ rfl;have z1:=hr.2 1 _ rfl;have z2:=hr.2 2 _ rfl;have z3:=hr.2 3 _ rfl;have z4:=hr.2 4 _ rfl;have z5:=hr.2 5 _ rfl;have z6:=hr.2 6 _ rfl;have z7:=hr.2 7 _ rfl;have zg:=hr.1;have HH:=dt h hc;clear h hc hl hb hr;go_enter func62,ntmps62;go_step3
 go_upto_region 2 with fail;clear v0 v1 v2 v3 v4 v5 v6 v7 vg;clear y0 y1 y2 yg;clear z0 z1 z2 z3 z4 z5 z6 z7 zg;clear q3 lc;have yY:aZ W (W.alloc (D fT 166)):=dE;obtain⟨rb,kS⟩:∃x,W.heap.size=x:=⟨_,rfl⟩;have hI:=au W rb fT 166 kS;rw[kS];refine forget (λ X=>fS H X/\Bk X rb fT 166/\aZ W X) ⟨HH.q1.keep yY,hI,yY⟩ ?_;clear hI yY kS HH;rintro X ⟨h1,h2,h4⟩;have HX:=fH h1 h2 h4;clear h1 h2 h4;go_upto_region 4 with(go_at_call 123;(with_reducible refine(YI X H HX.q1 rb (.pV HX.q2)).mono ?_);rintro e X1 ⟨rfl,hb⟩;have k2:=HX.q2.below hb;obtain⟨c2,l2⟩:=k2.cl0;have H1:=fH (HX.q1.keep hb) k2 (HX.t2.trans (hb.mono HX.t2.size));clear hb k2);clear qf;have qf:= @run_makeMap prog;go_wp2_with fail;go_step3
 go_upto_region 27 with fail;clear qf c2 l2;obtain⟨m2,tH⟩:∃x,X1.heap.size+1=x:=⟨_,rfl⟩;obtain⟨wb,hwb⟩:∃x,m2+1=x:=⟨_,rfl⟩;rw[tH,hwb];have hb0:aZ X1 (((X1.alloc (.map #[] 0)).alloc (.map #[] 0)).alloc (D #[.map (O X1.heap.size)] 251)):=dE;refine forget (λ X=>Bk X rb fT 166/\aZ W X) ⟨H1.q2.below hb0,H1.t2.trans (hb0.mono H1.t2.size)⟩ ?_;clear tH hwb hb0 H1 HX;obtain⟨m1,tu⟩:∃x,X1.heap.size=x:=⟨_,rfl⟩;rw[tu];clear tu;clear X1;rintro X1 ⟨h1,h2⟩;obtain⟨c2,l2⟩:=h1.cl0;have H1:=dt h1 h2;clear h1 h2
 go_upto_region 31 with(go_at_call 66;(refine(rY _ _ [20,5] _ 2 rfl (by
  intro i v hv;match i,hv with
  |0,hv=>cases hv;simp[go_sem]
  |1,hv=>cases hv;simp[go_sem]) bY bY bY).mono ?_);rintro e X2 ⟨rfl,hb⟩;have hb2:aZ X1 X2:=aq dE hb;clear c2 l2;have k2:=H1.q1.below hb2;obtain⟨c2,l2⟩:=k2.cl0;have H2:=dt k2 (H1.t1.trans (hb2.mono H1.t1.size));clear hb hb2 k2)
 go_upto_region 33 with(go_at_call 66;(refine(rY _ _ [24] _ 1 rfl (by
  intro i v hv;match i,hv with
  |0,hv=>cases hv;simp[go_sem]) bY bY bY).mono ?_);rintro e X3 ⟨rfl,hb⟩;have hb2:aZ X2 X3:=aq dE hb;clear c2 l2;have k2:=H2.q1.below hb2;obtain⟨c2,l2⟩:=k2.cl0;have H3:=dt k2 (H2.t1.trans (hb2.mono H2.t1.size));clear hb hb2 k2)
 go_wp2_with fail;refine wp_loop_rounds 1 ?_;rw[rounds_succ];go_wp2_with fail;refine wp_loop_rounds 1 ?_;rw[rounds_succ];go_wp2_with fail;refine wp_loop_rounds 1 ?_;rw[rounds_succ];go_wp2_with (go_at_call 125;(refine(QJ _ _).mono ?_);rintro e X4 ⟨rfl,hb⟩;have hb2:aZ X3 X4:=aq dE hb;have H4:=aG (H3.t1.trans (hb2.mono H3.t1.size));clear hb hb2);rw[Exit.noGoto_normal];go_end0;exact⟨⟨_,rfl⟩,H4.o⟩
end
section
open Go.RowKit Go.Shelf
attribute [local go_sem] aQ aC bW
theorem aci(W:agb)(H:Hx)(cb:Nat)(h:fS H W)(hc:Bk W cb (Rp H) 156):
 Calls prog 59 #[M (O ⟨cb,0,U⟩),.func (.func 60) #[M (O ⟨cb,0,U⟩)] #[],.func (.func 61) #[M (O ⟨cb,0,U⟩)] #[],.func (.func 62) #[M (O ⟨cb,0,U⟩)] #[],.func (.func 63) #[M (O ⟨cb,0,U⟩)] #[]] W λ r W'=>(∃v,r=.returned v)/\aZ W W':=by
 have hl:=h.l;have v0:=hl.2 0 _ rfl;have v1:=hl.2 1 _ rfl;have v2:=hl.2 2 _ rfl;have v3:=hl.2 3 _ rfl;have v4:=hl.2 4 _ rfl;have v5:=hl.2 5 _ rfl;have v6:=hl.2 6 _ rfl;have v7:=hl.2 7 _ rfl;have vg:=hl.1;have q3:=hc.cell 3;have lc:=hc.lt;have HH:=dt h hc;clear h hc hl;go_enter func59,ntmps59;go_wp2_with fail;refine wp_loop_rounds 2 ?_;rw[rounds_succ];go_upto_region 3 with fail;clear v0 v1 v2 v3 v4 v5 v6 v7 vg;clear q3 lc;obtain⟨lb,oy⟩:∃x,W.heap.size=x:=⟨_,rfl⟩;have yY:aZ W (W.alloc (D (oY H) 85)):=aj _ _;rw[oy];refine forget (λ X=>fS H X/\Bk X cb (Rp H) 156/\Bk X lb (oY H) 85/\aZ W X) ⟨HH.q1.keep yY,HH.t1.below yY,au _ _ _ _ oy,yY⟩ ?_;clear yY oy HH;rintro X ⟨h1,h2,h3,h4⟩;obtain⟨c3,l3⟩:=h3.cl0;have HX:=iM h1 h2 h3 h4;clear h1 h2 h3 h4;go_upto_region 4 with(go_at_call 60;(refine(Vo X H cb HX.q1 HX.q2).mono ?_);rintro e X1 ⟨⟨v,rfl⟩,hb⟩;clear c3 l3;have k3:=HX.q3.below hb;obtain⟨c3,l3⟩:=k3.cl0;have H1:=iM (HX.q1.keep hb) (HX.q2.below hb) k3 (HX.t3.trans (hb.mono HX.t3.size));clear hb k3);go_wp2_with fail;refine wp_loop_rounds 2 ?_;rw[rounds_succ];have hb:=H1.q1.b;have v0:=hb.2 0 _ rfl;have v1:=hb.2 1 _ rfl;have v2:=hb.2 2 _ rfl;have vg:=hb.1;clear hb;go_upto_region 7 with fail;clear v0 v1 v2 vg;clear c3 l3;obtain⟨bb,mN⟩:∃x,X1.heap.size=x:=⟨_,rfl⟩;have FD:aZ X1 (X1.alloc (D (QL H) 163)):=aj _ _;rw[mN];refine forget (λ X=>fS H X/\Bk X cb (Rp H) 156/\Bk X lb (oY H) 85/\Bk X bb (QL H) 163/\aZ W X) ⟨H1.q1.keep FD,H1.q2.below FD,H1.q3.below FD,au _ _ _ _ mN,H1.t3.trans (FD.mono H1.t3.size)⟩ ?_;clear FD mN H1 HX;clear X1;rintro X1 ⟨h1,h2,h3,Zg,h4⟩;obtain⟨c3,l3⟩:=h3.cl0;obtain⟨b3,lb3⟩:=Zg.cl0;have H1:=lQ h1 h2 h3 Zg h4;clear h1 h2 h3 Zg h4;go_upto_region 8 with(go_at_call 61;(refine(Vp X1 H cb H1.q1 H1.q2).mono ?_);rintro e X2 ⟨⟨v,rfl⟩,hb⟩;clear c3 l3 b3 lb3;have k3:=H1.q3.below hb;obtain⟨c3,l3⟩:=k3.cl0;have k4:=H1.q4.below hb;obtain⟨b3,lb3⟩:=k4.cl0;have H2:=lQ (H1.q1.keep hb) (H1.q2.below hb) k3 k4 (H1.t4.trans (hb.mono H1.t4.size));clear hb k3 k4)
 go_wp2_with fail;refine wp_loop_rounds 2 ?_;rw[rounds_succ];go_wp2_with (go_at_call 62;(refine(ach X2 H cb H2.q1 H2.q2).mono ?_);rintro e X3 ⟨⟨v,rfl⟩,hb⟩;clear c3 l3 b3 lb3;have k3:=H2.q3.below hb;obtain⟨c3,l3⟩:=k3.cl0;have H3:=iM (H2.q1.keep hb) (H2.q2.below hb) k3 (H2.t4.trans (hb.mono H2.t4.size));clear hb k3);rw[rounds_succ];go_wp2_with fail;rw[rounds_succ];go_wp2_with fail;refine wp_loop_rounds 2 ?_;rw[rounds_succ];go_wp2_with (go_at_call 63;(refine(YL X3 H cb H3.q1 H3.q2).mono ?_);rintro e X4 ⟨⟨v,rfl⟩,hb⟩;clear c3 l3;have H4:=aG (H3.t3.trans (hb.mono H3.t3.size));clear hb);rw[rounds_succ];go_wp2_with fail;rw[rounds_succ];go_wp2_with fail;go_end0;exact⟨⟨_,rfl⟩,H4.o⟩
theorem Es(W:agb)(s:Int):Calls prog 130 #[.agg fT,I J s] W λ r W'=>r=.returned (.agg #[I J 0,I J 0,I J 0])/\aZ W W':=by go_enter func130,ntmps130;go_wp2_with (go_at_call 179;(refine(Gv _ _).mono ?_);rintro e X1 ⟨rfl,hb⟩;have H1:=aG hb;have k1:=(((Bk.new W fT 166).alloc (D #[I J s] 3)).alloc (D #[I J 0,I J 0,I J 0] 253)).below hb;have k2:=(au ((W.alloc (D fT 166)).alloc (D #[I J s] 3)) (W.heap.size+1+1) #[I J 0,I J 0,I J 0] 253 bY).below hb;have c2:=k2.cell;have f2:=k2.free;have l2:=k2.lt;have HK:=aG k2;clear k1 k2 hb);have hw:=iA (b:=W.heap.size+1+1) [I J 0,I J 0,I J 0] 0 X1;have hb1:aZ W X1:=aq dE H1.o;exact bodyPost_ret (gD (p:=⟨W.heap.size+1+1,0,U⟩) rfl rfl (Bk.load (jF HK.o #[I J 0,I J 0,I J 0] rfl) underlying253 rfl aV)) rfl ⟨rfl,fV hb1 hw ar⟩
theorem Iw(a b c:Int)(w:agb):(Instr.field 253 (.agg #[I J a,I J b,I J c]) 0).run prog w=.ok (I J a) w:=aV
attribute [local go_sem] Iw
def nG(k:Nat)(s x:Int):Prop:=(k=0/\s=1/\x=20)\/(k=1/\s=2/\x=22)\/(k=2/\s=3/\x=24)
theorem yB(W:agb)(F:FuncId)(jz:Array R)(aad:Nat->agb->Prop)(KO:∀a w,(callFunc F a).run prog w=.ok (.enter F a) w)(hst:∀k X X',aad k X->aZ X X'->aad k X')
 (hstep:∀(k:Nat)(s x:Int) X,nG k s x->aad k X->W.heap.size<=X.heap.size->Calls prog F (#[I J s,I J x]++jz) X λ r X'=>(∃v,r=.returned v)/\aad (k+1) X'/\X.heap.size<=X'.heap.size/\∀rb C,W.heap.size<=rb->Bk X rb C 166->Bk X' rb C 166)(h0:aad 0 W):
 Calls prog 64 #[.agg fT,.func (.func F) #[] jz] W λ r W'=>(∃v,r=.returned v)/\aad 3 W'/\W.heap.size<=W'.heap.size:=by
 have HH:=fH hst hstep h0;clear hst hstep h0;go_enter func64,ntmps64;go_upto_region 2 with fail;obtain⟨rb,kS⟩:∃x,W.heap.size=x:=⟨_,rfl⟩;have hX:aZ W (W.alloc (D fT 166)):=aj _ _;rw[kS];refine forget (λ X=>aad 0 X/\Bk X rb fT 166/\W.heap.size<=X.heap.size) ⟨HH.q1 _ _ _ HH.t2 hX,au _ _ _ _ kS,hX.size⟩ ?_;clear hX;rintro X ⟨h1,h2,h3⟩;have HX:=fH h1 h2 h3;have HR:=aG kS;clear h1 h2 h3 kS;refine wp_loop_rounds 4 ?_;rw[rounds_succ];obtain⟨cr,lr⟩:=HX.q2.cl0;have hz:=HX.t2;have hs:=HH.q2 0 1 20;have HS:=aG hs;clear hs hz
 go_wp2_with (first
  |(go_at_call 130;(refine(Es _ _).mono ?_);rintro e X1 ⟨rfl,hb⟩;clear cr lr;have k1:=HX.q2.below hb;obtain⟨cr,lr⟩:=k1.cl0;have HM:=fH (HH.q1 _ _ _ HX.q1 hb) k1 (bm HX.t2 hb.size);clear hb k1)
  |(go_at_fn F;(refine(HS.o _ (by simp[nG]) HM.q1 HM.t2).mono ?_);rintro e X2 ⟨⟨v,rfl⟩,hi,hz,hk⟩;have HY:=fH hi (hk rb _ (Nat.le_of_eq HR.o) HM.q2) (bm HM.t2 hz);clear hi hz hk))
 clear cr lr HX HM HS;obtain⟨X,Ae⟩:∃X,X=X2:=⟨_,rfl⟩;rw[<-Ae] at HY⊢;clear Ae X1 X2;have HX:=HY;clear HY;rw[rounds_succ];obtain⟨cr,lr⟩:=HX.q2.cl0;have hz:=HX.t2;have hs:=HH.q2 1 2 22;have HS:=aG hs;clear hs hz
 go_wp2_with (first
  |(go_at_call 130;(refine(Es _ _).mono ?_);rintro e X1 ⟨rfl,hb⟩;clear cr lr;have k1:=HX.q2.below hb;obtain⟨cr,lr⟩:=k1.cl0;have HM:=fH (HH.q1 _ _ _ HX.q1 hb) k1 (bm HX.t2 hb.size);clear hb k1)
  |(go_at_fn F;(refine(HS.o _ (by simp[nG]) HM.q1 HM.t2).mono ?_);rintro e X2 ⟨⟨v,rfl⟩,hi,hz,hk⟩;have HY:=fH hi (hk rb _ (Nat.le_of_eq HR.o) HM.q2) (bm HM.t2 hz);clear hi hz hk))
 clear cr lr HX HM HS;obtain⟨X,Ae⟩:∃X,X=X2:=⟨_,rfl⟩;rw[<-Ae] at HY⊢;clear Ae X1 X2;have HX:=HY;clear HY;rw[rounds_succ];obtain⟨cr,lr⟩:=HX.q2.cl0;have hz:=HX.t2;have hs:=HH.q2 2 3 24;have HS:=aG hs;clear hs hz
 go_wp2_with (first
  |(go_at_call 130;(refine(Es _ _).mono ?_);rintro e X1 ⟨rfl,hb⟩;clear cr lr;have k1:=HX.q2.below hb;obtain⟨cr,lr⟩:=k1.cl0;have HM:=fH (HH.q1 _ _ _ HX.q1 hb) k1 (bm HX.t2 hb.size);clear hb k1)
  |(go_at_fn F;(refine(HS.o _ (by simp[nG]) HM.q1 HM.t2).mono ?_);rintro e X2 ⟨⟨v,rfl⟩,hi,hz,hk⟩;have HY:=fH hi (hk rb _ (Nat.le_of_eq HR.o) HM.q2) (bm HM.t2 hz);clear hi hz hk))
 clear cr lr HX HM HS;obtain⟨X,Ae⟩:∃X,X=X2:=⟨_,rfl⟩;rw[<-Ae] at HY⊢;clear Ae X1 X2;have HX:=HY;clear HY;rw[rounds_succ];obtain⟨cr,lr⟩:=HX.q2.cl0;go_wp2_with fail;go_end0;exact⟨⟨_,rfl⟩,HX.q1,HX.t2⟩
end
section
open Go.RowKit Go.Shelf
attribute [local go_sem] aQ aC bW jC
theorem YM(W:agb)(xb:Nat)(h:gp W xb E8):Calls prog 182 (#[.agg doC]++#[M (O ⟨xb,0,U⟩)]) W λ e W'=>e=.returned (.bool true)/\aZ W W':=by have v0:=h.2 0 _ rfl;have v1:=h.2 1 _ rfl;have v2:=h.2 2 _ rfl;have v3:=h.2 3 _ rfl;have vg:=h.1;clear h;show Calls prog 182 #[.agg doC,M (O ⟨xb,0,U⟩)] W _;go_enter func182,ntmps182;go_wp2_with (go_at_call 136;(refine(s8 _ 10 0 18 30 10 0 true cj).mono ?_);rintro e X1 ⟨rfl,hb⟩;have H1:=aG hb;clear hb);go_ret;exact⟨rfl,aq dE H1.o⟩
theorem M7(W:agb)(pb lb eb ob:Nat)(h0:W.cell? ⟨pb,0,U⟩=O (G (O ⟨ob,0,U⟩) 1 1))(h1:W.cell? ⟨ob,0,U⟩=O (.bool true)):
 Calls prog 181 #[I J 0,M (O ⟨pb,0,U⟩),M (O ⟨lb,0,U⟩),M (O ⟨eb,0,U⟩)] W λ e W'=>(∃v,e=.returned v)/\aZ W W':=by
 have l0:=World.block_lt_of_cell? _ _ h0;have l1:=World.block_lt_of_cell? _ _ h1;go_enter func181,ntmps181;go_wp2_with fail;refine bodyPost_ret (results_none rfl _ _ _) rfl ?_;exact⟨⟨_,rfl⟩,aA _ _⟩
abbrev E9(pb lb eb:Nat):R:=.func (.func 181) #[] #[M (O ⟨pb,0,U⟩),M (O ⟨lb,0,U⟩),M (O ⟨eb,0,U⟩)]
theorem K2(W:agb)(H:Hx)(pb lb eb ob:Nat)(hH:fS H W)(hl:Bk W lb (oY H) 85)(hp:Bk W pb #[G (O ⟨ob,0,U⟩) 1 1] 259)(ho:Bk W ob #[.bool false] 4)(he:Bk W eb #[E9 pb lb eb] 158)(hn:H.g4≠ob):
 Calls prog 181 #[I J 0,M (O ⟨pb,0,U⟩),M (O ⟨lb,0,U⟩),M (O ⟨eb,0,U⟩)] W λ e W'=>(∃v,e=.returned v)/\Bk W' ob #[.bool true] 4/\Only (λ g=>g=ob) W W':=by
 have l0:=hp.lt;have c0:=hp.cell 0;have l1:=ho.lt;have c1:=ho.cell 0;have f1:=ho.free 0;have HH:=lQ hH hl hp ho he
 have n1:pb≠ob:=λ e=>by subst e;exact absurd (fj hp ho) cj
 have n2:lb≠ob:=λ e=>by subst e;exact absurd (fj hl ho) cj
 have n3:eb≠ob:=λ e=>by subst e;exact absurd (fj he ho) cj
 clear hH hl hp ho he;go_enter func181,ntmps181;go_upto_region 2 with fail;have h1:=HH.q4.aS 0 (.bool true);have h2:=HH.q2.far (p:=⟨ob,0,U⟩) (λ e=>n2 e) (.bool true);have h3:=HH.q3.far (p:=⟨ob,0,U⟩) (λ e=>n1 e) (.bool true);have h4:=HH.t4.far (p:=⟨ob,0,U⟩) (λ e=>n3 e) (.bool true);have h5:Only (λ g=>g=ob) W (W.setCell ⟨ob,0,U⟩ (.bool true)):=(Only.refl (λ g=>g=ob) W).aS (p:=⟨ob,0,U⟩) (.inl rfl) _;have h6:=HH.q1.x.only h5 hn;refine forget (λ X=>gp X H.g4 E8/\Bk X lb (oY H) 85/\Bk X pb #[G (O ⟨ob,0,U⟩) 1 1] 259/\Bk X ob #[.bool true] 4/\Bk X eb #[E9 pb lb eb] 158/\Only (λ g=>g=ob) W X) ⟨h6,h2,h3,h1,h4,h5⟩ ?_;clear h1 h2 h3 h4 h5 h6 HH l0 c0 l1 c1 f1;rintro X ⟨h6,h2,h3,h1,h4,h5⟩;have HX:=uF h6 h2 h3 h1 h4 h5;obtain⟨cl,ll⟩:=h2.cl0;have v0:=h6.2 0 _ rfl;have v1:=h6.2 1 _ rfl;have v2:=h6.2 2 _ rfl;have v3:=h6.2 3 _ rfl;have vg:=h6.1;clear h1 h2 h3 h4 h5 h6;go_wp2_with fail;refine wp_loop_rounds 2 ?_;rw[rounds_succ];go_upto_region 5 with fail;clear cl ll v0 v1 v2 v3 vg;obtain⟨bb,mN⟩:∃x,X.heap.size=x:=⟨_,rfl⟩;have FD:aZ X (X.alloc (D E8 169)):=aj _ _;rw[mN];have lX:=HX.q4.lt;have q1:=HX.q1.keep FD;have q2:=HX.q2.below FD;have q3:=HX.q3.below FD;have q4:=HX.q4.below FD;have q5:=HX.q5.below FD;have q6:=HX.t5.below (FD.mono HX.t5.size);refine forget (λ X=>gp X H.g4 E8/\Bk X lb (oY H) 85/\Bk X pb #[G (O ⟨ob,0,U⟩) 1 1] 259/\Bk X ob #[.bool true] 4/\Bk X eb #[E9 pb lb eb] 158/\Bk X bb E8 169/\Only (λ g=>g=ob) W X) ⟨q1,q2,q3,q4,q5,au _ _ _ _ mN,q6⟩ ?_;clear q1 q2 q3 q4 q5 q6 HX FD mN lX;clear X;rintro X ⟨h1,h2,h3,h4,h5,h6,h7⟩;have v0:=h1.2 0 _ rfl;have v1:=h1.2 1 _ rfl;have v2:=h1.2 2 _ rfl;have v3:=h1.2 3 _ rfl;have vg:=h1.1;obtain⟨cl,ll⟩:=h2.cl0;obtain⟨cb,lb6⟩:=h6.cl0;have HX:=lQ h2 h3 h4 h5 h7;clear h1 h2 h3 h4 h5 h6 h7;refine sH X [([0,1,2,3,4,5],[6])] (aA _ _) aV aV (λ u=>?_);(refine bT (λ K9 h9=>?_);simp only[aH,aU,aW,aa,ae];(repeat(go_big_quiet_step (fail)));refine wpQuiet_nil (h9 _ ?_);clear h9 K9)
 (refine cM (λ K9 h9=>?_);simp only[aW,aa,ae])
 go_wp2_with (go_at_call 139;(refine(KX _ 10 0 18 30 10 0 18 30 cj cj).mono ?_);rintro e X2 ⟨rfl,hb⟩;have hb2:aZ X X2:=(aT X u).trans (hb.mono (ke X u));have H2:=aG hb2;clear hb hb2);refine h9 _ _ (iJ H2.o) ?_;clear h9 K9;refine bU (dF ?_);have q2:=HX.q1.below H2.o;have q3:=HX.q2.below H2.o;have q4:=HX.q3.below H2.o;have q5:=HX.q4.below H2.o;have q6:=HX.t4.below (H2.o.mono HX.t4.size);have c3:=q3.cell 0;have c4:=q4.cell 0;have c5:=q5.cell 0;have l5:=q5.lt;have l2:=q2.lt;have cl2:=q2.cell;have HY:=fH q2 q4 q6;clear v0 v1 v2 v3 vg cl ll cb lb6 q2 q3 q4 q5 q6 HX H2;go_wp2_with (go_at_call 181;(refine(M7 X2 pb lb eb ob c3 c4).mono ?_);rintro e X3 ⟨⟨v,rfl⟩,hb⟩;clear c3 c4 c5 l5 l2 cl2;have q4:=HY.q2.below hb;have q6:=HY.t2.below (hb.mono HY.t2.size);have HZ:=dt q4 q6;clear q4 q6 hb);rw[rounds_succ];go_wp2_with fail;go_end0;exact⟨⟨_,rfl⟩,HZ.q1,HZ.t1⟩
theorem acj:madeCells (#[.bool false]:Array R) (Int.toNat 1*1)=#[.bool false]:=by
 first
  |rfl
  |(simp[madeCells,Array.range];done)
  |(apply Array.ext';simp[madeCells,Array.range];done)
  |kernel_rfl
theorem akP(w:agb):(Instr.makeSlice 259 (I J 1) (I J 1)).run prog w=.ok (G (O ⟨w.heap.size,0,U⟩) 1 1) (w.alloc (D #[.bool false] 4)):=by
 obtain⟨i,z,i1,i2,i3,i4,i5⟩:=kU (P:=prog) (e:=4) (size:=1) (bytes:=1) (c:=1) aV
 have hz:z.cells=#[.bool false]:=by have h:((prog.info? 4).bind (·.zero)).map (·.cells)=O #[.bool false]:=aV;rw[i1] at h;simp only[lH] at h;rw[i2] at h;simpa using h
 rw[run_makeSlice w 259 4 i z underlying259 i1 i2 .i64 .i64 1 1 ar ar (by rw[i3];decide) (by rw[i4];decide) ar,hz,i3,acj];rfl
theorem QN(W:agb)(H:Hx)(h:fS H W):
 Calls prog 132 #[.agg (oY H)] W λ e W'=>(∃ob,e=.returned (G (O ⟨ob,0,U⟩) 1 1)/\W.heap.size<=ob/\Bk W' ob #[.bool true] 4)/\aZ W W':=by
 have C9:∀(fn:Fn)(first cap:Array R)(w:agb),(Instr.makeFunc fn first cap).run prog w=.ok (.func fn first cap) w:=λ _ _ _ _=>rfl;have Th:=akP;have HH:=aG h;clear h;go_enter func132,ntmps132;go_upto_region 4 with fail;clear C9 Th;obtain⟨lb,oy⟩:∃x,W.heap.size=x:=⟨_,rfl⟩;obtain⟨ob,oJ⟩:∃x,lb+1=x:=⟨_,rfl⟩;obtain⟨pb,oU⟩:∃x,ob+1=x:=⟨_,rfl⟩;obtain⟨eb,zh⟩:∃x,pb+1=x:=⟨_,rfl⟩;rw[oy,oJ,oU,zh];have h0:aZ W ((((W.alloc (D (oY H) 85)).alloc (D #[.bool false] 4)).alloc (D #[G (O ⟨ob,0,U⟩) 1 1] 259)).alloc (D #[E9 pb lb eb] 158)):=dE;have h1:=(((au W lb (oY H) 85 oy).alloc (D #[.bool false] 4)).alloc (D #[G (O ⟨ob,0,U⟩) 1 1] 259)).alloc (D #[E9 pb lb eb] 158);have h2:=((au (W.alloc (D (oY H) 85)) ob #[.bool false] 4 gW).alloc (D #[G (O ⟨ob,0,U⟩) 1 1] 259)).alloc (D #[E9 pb lb eb] 158);have h3:=(au ((W.alloc (D (oY H) 85)).alloc (D #[.bool false] 4)) pb #[G (O ⟨ob,0,U⟩) 1 1] 259 gW).alloc (D #[E9 pb lb eb] 158);have h4:=au (((W.alloc (D (oY H) 85)).alloc (D #[.bool false] 4)).alloc (D #[G (O ⟨ob,0,U⟩) 1 1] 259)) eb #[E9 pb lb eb] 158 gW;have hW:=HH.o.x.1;have hn:H.g4≠ob:=ar;have hle:W.heap.size<=ob:=ar;refine forget (λ X=>fS H X/\Bk X lb (oY H) 85/\Bk X ob #[.bool false] 4/\Bk X pb #[G (O ⟨ob,0,U⟩) 1 1] 259/\Bk X eb #[E9 pb lb eb] 158/\aZ W X) ⟨HH.o.keep h0,h1,h2,h3,h4,h0⟩ ?_;clear h0 h1 h2 h3 h4 oy oJ oU zh HH hW;rintro X ⟨h0,h1,h2,h3,h4,h5⟩;obtain⟨cl,ll⟩:=h1.cl0;have hx:=h0.x;have v0:=hx.2 0 _ rfl;have v1:=hx.2 1 _ rfl;have v2:=hx.2 2 _ rfl;have v3:=hx.2 3 _ rfl;have vg:=hx.1;have HX:=uF h0 h1 h2 h3 h4 h5;clear h0 h1 h2 h3 h4 h5 hx;go_wp2_with fail;refine wp_loop_rounds 2 ?_;rw[rounds_succ];go_upto_region 7 with fail;clear cl ll v0 v1 v2 v3 vg;obtain⟨xb,J5⟩:∃x,X.heap.size=x:=⟨_,rfl⟩;have hX:aZ X (X.alloc (D E8 169)):=aj _ _;rw[J5];refine forget (λ X=>fS H X/\Bk X lb (oY H) 85/\Bk X ob #[.bool false] 4/\Bk X pb #[G (O ⟨ob,0,U⟩) 1 1] 259/\Bk X eb #[E9 pb lb eb] 158/\Bk X xb E8 169/\aZ W X) ⟨HX.q1.keep hX,HX.q2.below hX,HX.q3.below hX,HX.q4.below hX,HX.q5.below hX,au _ _ _ _ J5,HX.t5.trans (hX.mono HX.t5.size)⟩ ?_
 clear hX J5 HX;clear X;rintro X ⟨h0,h1,h2,h3,h4,h6,h5⟩;obtain⟨cl,ll⟩:=h1.cl0
 have hcon:Calls prog 119 #[G (O ⟨H.g6,0,U⟩) 1 H.c6,.func (.func 182) #[] #[M (O ⟨xb,0,U⟩)]] X (jL (.bool true) X):=
  Ep X H.g6 0 H.c6 182 #[M (O ⟨xb,0,U⟩)] (I J 10) (I J 0) true h0.d.1 h0.d.off ⟨enters_of func182 aV rfl,λ Y hY=>YM Y xb ((gp.pV h6).keep hY)⟩
 have HX:=yJ h0 h1 h2 h3 h4 h5 hcon;clear h0 h1 h2 h3 h4 h5 h6 hcon;go_upto_region 8 with(go_at_call 119;(with_reducible refine HX.t6.mono ?_);rintro e X2 ⟨rfl,hb⟩;have H2:=aG hb;clear hb);clear cl ll;have h0:=HX.q1.keep H2.o;have h1:=HX.q2.below H2.o;have h2:=HX.q3.below H2.o;have h3:=HX.q4.below H2.o;have h4:=HX.q5.below H2.o;have h5:=HX.q6.trans (H2.o.mono HX.q6.size);have c4:=h4.cell 0;have l4:=h4.lt;have HY:=dt h3 h5;have hen:=K2 X2 H pb lb eb ob h0 h1 h3 h2 h4 hn
 have n3:pb≠ob:=λ e=>by subst e;exact absurd (fj h3 h2) cj
 have HE:=aG hen;clear h0 h1 h2 h3 h4 h5 hen HX H2;go_wp2_with (go_at_call 181;(with_reducible refine HE.o.mono ?_);rintro e X3 ⟨⟨v,rfl⟩,hb,ho⟩;have k3:=HY.q1.only ho n3;have c3:=k3.cell 0;have l3:=k3.lt;have HZ:=dt hb (HY.t1.trans (ho.aK (λ g hg=>ar) HY.t1.size));clear hb ho k3 c4 l4);rw[rounds_succ];go_wp2_with fail;go_ret;exact⟨⟨ob,rfl,hle,HZ.q1⟩,HZ.t1⟩
end
section
open Go.RowKit Go.Maps
def Rq(x:Int):R:=.agg #[I J x,I J 5]
def yC(vs:List R):List MapEntry:=(List.range vs.length).map λ(i:Nat)=>{key:=Rq (20+2*(i:Int)),val:=vs.getD i undef,born:=i}
def jh(X:agb)(b:Nat)(vs:List R):Prop:=X.heap[b]?=O (.map (yC vs).toArray vs.length)
theorem jh.lt{X:agb}{b:Nat}{vs:List R}(h:jh X b vs):b<X.heap.size:=by unfold jh at h;exact(iX.1 h).1
theorem jh.only{X X':agb}{b:Nat}{vs:List R}{S:Nat->Prop}(h:jh X b vs)(ho:Only S X X')(hn:¬S b):jh X' b vs:=(ho.block b h.lt hn).trans h
theorem jh.below{X X':agb}{b:Nat}{vs:List R}(h:jh X b vs)(hb:aZ X X'):jh X' b vs:=h.only (aw (S:=λ _=>False) hb) λ h=>h
theorem K3(e:Bool)(x:Int)(w:agb):(Instr.checkKey e 10000 23 (Rq x)).run prog w=.ok () w:=aV
theorem Vq(w:agb):(Instr.findKey 23 (Rq 20) (yC [])).run prog w=.ok U w:=aV
theorem Vr(a:R)(w:agb):(Instr.findKey 23 (Rq 22) (yC [a])).run prog w=.ok U w:=aV
theorem Vs(a b:R)(w:agb):(Instr.findKey 23 (Rq 24) (yC [a,b])).run prog w=.ok U w:=aV
theorem OL{vs:List R}{s x:Int}(hs:nG vs.length s x)(w:agb):(Instr.findKey 23 (Rq x) (yC vs)).run prog w=.ok U w:=by
 rcases hs with⟨hk,rfl,rfl⟩|⟨hk,rfl,rfl⟩|⟨hk,rfl,rfl⟩
 · obtain rfl:vs=[]:=fp hk
   exact Vq w
 · match vs,hk with
   |[a],_=>exact Vr a w
 · match vs,hk with
   |[a,b],_=>exact Vs a b w
theorem OM(w:agb):(zeroValue 117).run prog w=.ok (G U 0 0) w:=aV
theorem jh.look{X:agb}{b:Nat}{vs:List R}(h:jh X b vs){s x:Int}(hs:nG vs.length s x):
 (Instr.lookup 262 (.map (O b)) (Rq x) false).run prog X=.ok (G U 0 0) X:=by
 have hf:=OL hs X;unfold Instr.lookup;simp only[Sem.run_bind,run_underlying underlying262 X,Result.andThen_ok];simp[Sem.run_bind,MapKept.run_getObj_map h,K3,hf,OM]
theorem YN{vs:List R}(v:R)(x:Int)(s:Int)(hs:nG vs.length s x):yC (vs++[v])=yC vs++[{key:=Rq x,val:=v,born:=vs.length}]:=by
 have hx:x=20+2*(vs.length:Int):=by rcases hs with⟨h,_,rfl⟩|⟨h,_,rfl⟩|⟨h,_,rfl⟩<;>rw[h]<;>rfl
 unfold yC;rw[ax,bD,dG,fX,dH];congr 1
 · apply List.map_congr_left
   intro i hi;have hi:=bG.1 hi;simp[av,bM hi]
 · simp[av,hx]
theorem jh.entry{X:agb}{b:Nat}{vs:List R}(h:jh X b vs){s x:Int}(hs:nG vs.length s x):
 ∃X',(Instr.mapEntry 262 (.map (O b)) (Rq x)).run prog X=.ok (.tuple #[G U 0 0,I J vs.length]) X'/\jh X' b (vs++[G U 0 0])/\Only (λ g=>g=b) X X':=by
 have hlt:=h.lt;have hf:=OL hs X;refine⟨{X with heap:=X.heap.setIfInBounds b (.map ((yC vs).toArray.push {key:=Rq x,val:=G U 0 0,born:=vs.length}) (vs.length+1))},?_,?_,?_⟩
 · unfold Instr.mapEntry
   simp[Sem.run_bind,run_underlying underlying262 X,MapKept.run_getObj_map h,K3,hf,OM,MapKept.run_setObj_map _ h,goInt]
 · unfold jh
   rw[YN _ x s hs];simp[hlt]
 · exact⟨rfl,rfl,rfl,bY,λ g hg hn=>by have :b≠g:=λ e=>hn e.symm;simp[this]⟩
theorem ack(vs:List R)(v:R)(h:vs.length<=2):(yC (vs++[v])).findIdx? (λ e=>(e.born:Int)==(vs.length:Int))=O vs.length:=by
 match vs,h with
 |[],_=>rfl
 |[a],_=>rfl
 |[a,b],_=>rfl
theorem acm(vs:List R)(v u:R)(h:vs.length<=2):(yC (vs++[v])).modify vs.length (λ e=>{key:=e.key,val:=u,born:=e.born})=yC (vs++[u]):=by
 match vs,h with
 |[],_=>rfl
 |[a],_=>rfl
 |[a,b],_=>rfl
theorem jh.put{X:agb}{b:Nat}{vs:List R}{v:R}(h:jh X b (vs++[v]))(h2:vs.length<=2)(u:R):
 ∃X',(Instr.entryStore 262 (.map (O b)) (I J vs.length) u).run prog X=.ok () X'/\jh X' b (vs++[u])/\Only (λ g=>g=b) X X':=by
 have hlt:=h.lt;refine⟨{X with heap:=X.heap.setIfInBounds b (.map (yC (vs++[u])).toArray (vs.length+1))},?_,?_,?_⟩
 · unfold Instr.entryStore
   simp[Sem.run_bind,MapKept.run_getObj_map h,MapKept.run_setObj_map _ h,ack vs v h2,acm vs v u h2,asInt,asIntOf]
 · unfold jh
   simp[hlt]
 · exact⟨rfl,rfl,rfl,bY,λ g hg hn=>by have :b≠g:=λ e=>hn e.symm;simp[this]⟩
section
variable{w:agb}{ops:Array Oper}{rest:List Oper}{o:Oper}{a:Act}{Q:lC}{b:Nat}{vs:List R}{s x:Int}
theorem Vt{K:Act->Prop}{C:agb->Prop}(mm y:Operand)(hop:o.op=Op.lookup 262 mm y false)(hm:a.eval mm=.map (O b))(h:∀w,C w->jh w b vs)(hs:nG vs.length s x)(hx:a.eval y=Rq x)(hK:K (a.put o.dst (G U 0 0))):o.quiet prog a C K:=by refine⟨_,λ w hC=>?_,hK⟩;have hrun:=(h w hC).look hs;unfold Oper.quietAt execOp;simp only[hop,hm,hx,Sem.run_bind,hrun,Result.andThen_ok,Sem.run_pure];exact⟨rfl,rfl⟩
theorem Ix(hg:o.guard=U)(mm y:Operand)(hop:o.op=Op.mapEntry 262 mm y)(hm:a.eval mm=.map (O b))(h:jh w b vs)(hs:nG vs.length s x)(hx:a.eval y=Rq x)
 (hK:∀w',jh w' b (vs++[G U 0 0])->Only (λ g=>g=b) w w'->wpList prog ops Q rest (a.put o.dst (.tuple #[G U 0 0,I J vs.length])) w'):wpList prog ops Q (o::rest) a w:=by
 refine wpList_plain hg λ K' hK'=>?_;obtain⟨w',hrun,h1,h2⟩:=h.entry hs;unfold Oper.wp;simp[execOp,hop,hm,hx,hrun,Result.andThen];exact hK' _ _ (hK w' h1 h2)
theorem M8(hg:o.guard=U)(mm y z:Operand)(hop:o.op=Op.entryStore 262 mm y z)(hm:a.eval mm=.map (O b)){v:R}(h:jh w b (vs++[v]))(h2:vs.length<=2)(hy:a.eval y=I J vs.length){u:R}(hu:a.eval z=u)
 (hK:∀w',jh w' b (vs++[u])->Only (λ g=>g=b) w w'->wpList prog ops Q rest (a.put o.dst undef) w'):wpList prog ops Q (o::rest) a w:=by
 refine wpList_plain hg λ K' hK'=>?_;obtain⟨w',hrun,h1,h2⟩:=h.put h2 u;unfold Oper.wp;simp[execOp,hop,hm,hy,hu,hrun,Result.andThen];exact hK' _ _ (hK w' h1 h2)
end
end
section
open Go.RowKit Go.Shelf
attribute [local go_sem] aQ aC bW
theorem YO(w:agb):(Builtin.append_ #[117,117] 117 #[G U 0 0,G U 0 0]).run prog w=.ok (G U 0 0) w:=aV
theorem agm(W:agb)(xb rb:Nat)(x:Int)(hx:18<x)(h:W.cell? ⟨xb,0,U⟩=O (I J x))(hr:gp W rb fT):Calls prog 135 (#[.agg E8]++#[M (O ⟨xb,0,U⟩),M (O ⟨rb,0,U⟩)]) W λ e W'=>e=.returned (.bool false)/\aZ W W':=by have v2:=hr.2 2 _ rfl;have lr:=hr.1;have lx:=World.block_lt_of_cell? _ _ h;clear hr;show Calls prog 135 #[.agg E8,M (O ⟨xb,0,U⟩),M (O ⟨rb,0,U⟩)] W _;go_enter func135,ntmps135;go_wp2_with (go_at_call 136;(refine(s8 _ 10 0 18 30 x 5 false gW).mono ?_);rintro e X1 ⟨rfl,hb⟩;have H1:=aG hb;clear hb);go_ret;exact⟨rfl,aq dE H1.o⟩
def wS(H:Hx)(lo:Nat):Prop:=H.gl<lo/\H.g2<lo/\H.gr<lo/\H.g3<lo/\H.g4<lo/\H.g6<lo
theorem fS.bound{H:Hx}{X:agb}(h:fS H X):wS H X.heap.size:=⟨h.l.1,h.b.1,h.r.1,h.a.1,h.x.1,h.d.1⟩
theorem fS.only{H:Hx}{lo:Nat}{S:Nat->Prop}{X X':agb}(h:fS H X)(hb:wS H lo)(ho:Only S X X')(hS:∀g,S g->lo<=g):fS H X':=by
 obtain⟨b1,b2,b3,b4,b5,b6⟩:=hb;have n:∀g,g<lo->¬S g:=λ g h1 h2=>by have :=hS g h2;omega
 exact⟨h.l.only ho (n _ b1),h.b.only ho (n _ b2),h.r.only ho (n _ b3),h.a.only ho (n _ b4),h.x.only ho (n _ b5),h.d.only ho (n _ b6),h.c⟩
structure Sv(lo:Nat)(H:Hx)(rb ob tb wb kb lb mb k:Nat)(X:agb):Prop where
 fh:fS H X
 fr:Bk X rb fT 166
 fo:Bk X ob #[G U 0 0] 117
 ft:Bk X tb #[.map (O mb)] 262
 fw:Bk X wb #[G U 0 0] 161
 fk:Bk X kb #[.bool false] 4
 fl:Bk X lb (oY H) 85
 fm:∃vs,vs.length=k/\jh X mb vs
 fb:wS H lo/\lo<=ob/\lo<=mb/\lo<=kb
section
variable{lo:Nat}{H:Hx}{rb ob tb wb kb lb mb k k':Nat}{X X':agb}
theorem Sv.keep(h:Sv lo H rb ob tb wb kb lb mb k X)(hb:aZ X X'):Sv lo H rb ob tb wb kb lb mb k X':=by obtain⟨vs,h1,h2⟩:=h.fm;exact⟨h.fh.keep hb,h.fr.below hb,h.fo.below hb,h.ft.below hb,h.fw.below hb,h.fk.below hb,h.fl.below hb,⟨vs,h1,h2.below hb⟩,h.fb⟩
theorem th{b:Nat}{vs:List R}{C:Array R}{t:TypeId}(h:Bk X b C t){m:Nat}(hm:jh X m vs):b≠m:=λ e=>by subst e;have q:O (Obj.cells C t (0,0))=O (Obj.map (yC vs).toArray vs.length):=(show X.heap[b]?=_ from h).symm.trans hm;cases q
theorem Sv.upd(h:Sv lo H rb ob tb wb kb lb mb k X)(ho:Only (λ g=>g=ob\/g=mb\/g=kb) X X')(h1:Bk X' ob #[G U 0 0] 117)(h2:Bk X' kb #[.bool false] 4)(h3:∃vs,vs.length=k'/\jh X' mb vs):Sv lo H rb ob tb wb kb lb mb k' X':=by
 obtain⟨vs,_,hm⟩:=h.fm;obtain⟨b0,b1,b2,b3⟩:=h.fb
 have n:∀{g:Nat}{C:Array R}{t:TypeId},Bk X g C t->t≠117->t≠4->¬(g=ob\/g=mb\/g=kb):=λ{g C t} hg n1 n2=>by
  rintro(rfl|rfl|rfl)
  · exact n1 (fj hg h.fo)
  · exact th hg hm rfl
  · exact n2 (fj hg h.fk)
 exact⟨h.fh.only b0 ho (λ g hg=>ar),h.fr.only ho (n h.fr cj cj),h1,h.ft.only ho (n h.ft cj cj),h.fw.only ho (n h.fw cj cj),h2,h.fl.only ho (n h.fl cj cj),h3,h.fb⟩
end
theorem agn(W:agb)(H:Hx)(lo rb ob tb wb kb lb mb k:Nat)(s x:Int)(hs:nG k s x)(h:Sv lo H rb ob tb wb kb lb mb k W):
 Calls prog 134 #[I J s,I J x,M (O ⟨rb,0,U⟩),M (O ⟨ob,0,U⟩),M (O ⟨tb,0,U⟩),M (O ⟨wb,0,U⟩),M (O ⟨kb,0,U⟩),M (O ⟨lb,0,U⟩)] W λ r W'=>(∃v,r=.returned v)/\Sv lo H rb ob tb wb kb lb mb (k+1) W'/\Only (λ g=>g=ob\/g=mb\/g=kb) W W':=by
 have C9:∀(fn:Fn)(first cap:Array R)(w:agb),(Instr.makeFunc fn first cap).run prog w=.ok (.func fn first cap) w:=λ _ _ _ _=>rfl;have han:=YO;obtain⟨c2,l2⟩:=h.fr.cl0;have HH:=dt h hs;clear h hs;go_enter func134,ntmps134;go_upto_region 2 with fail;clear c2 l2;obtain⟨xb,J5⟩:∃x,W.heap.size=x:=⟨_,rfl⟩;obtain⟨pb,oU⟩:∃x,xb+1=x:=⟨_,rfl⟩;rw[J5,oU];have h0:aZ W ((W.alloc (D #[I J x] 3)).alloc (D #[I J x,I J 5] 23)):=dE;have h1:=(au W xb #[I J x] 3 J5).alloc (D #[I J x,I J 5] 23);have h2:=au (W.alloc (D #[I J x] 3)) pb #[I J x,I J 5] 23 gW;refine forget (λ X=>Sv lo H rb ob tb wb kb lb mb k X/\Bk X xb #[I J x] 3/\Bk X pb #[I J x,I J 5] 23/\aZ W X) ⟨HH.q1.keep h0,h1,h2,h0⟩ ?_;clear h0 h1 h2 J5 oU;rintro X ⟨h0,h1,h2,h3⟩;have c3:=h0.fo.cell 0;have l3:=h0.fo.lt;have f3:=h0.fo.free 0;have c4:=h0.ft.cell 0;have l4:=h0.ft.lt;obtain⟨cp,lp⟩:=h2.cl0;obtain⟨vs,rfl,hm⟩:=h0.fm;have Ye:nG vs.length s x:=HH.t1;have HM:Hid (∀w9,(∃u,w9=ext X u)->jh w9 mb vs):=aG λ w9 ⟨u,hu⟩=>by rw[hu];exact hm.below (aT X u)
 have HX:=uF h0 h1 h2 h3 hm Ye;clear h0 h1 h2 h3 hm;have HO:Hid (aZ X X.drew):=aG ((aA _ X).drew);refine ed (S:=λ w'=>∃u,w'=ext X u) [([0,1,2,3],[4])] 5 aV aV (iJ HO.o) ?_;refine bT (λ K9 h9=>?_);simp only[aH,aU,aW,aa,ae]
 iterate 3 (go_big_quiet_step (fail))
 go_big_quiet_want
 refine Vt _ _ rfl rfl HM.o Ye rfl ?_;go_simp;go_big_quiet_on
 refine wpQuiet_nil (h9 _ ?_);clear h9 K9;(refine cM (λ K9 h9=>?_);simp only[aW,aa,ae])
 go_wp2_with fail;refine h9 _ _ (iJ HO.o) ?_;clear h9 K9;refine bU (dF ?_);simp only[aW,aa,ae];go_upto_region 3 with fail;have W6:Only (λ g=>g=ob\/g=mb\/g=kb) X (X.drew.setCell ⟨ob,0,U⟩ (G U 0 0)):=((Only.refl (λ g=>g=ob\/g=mb\/g=kb) X).drew).aS (p:=⟨ob,0,U⟩) (.inl (.inl rfl)) _;have IL:Only (λ g=>g=ob) X (X.drew.setCell ⟨ob,0,U⟩ (G U 0 0)):=((Only.refl (λ g=>g=ob) X).drew).aS (p:=⟨ob,0,U⟩) (.inl rfl) _;have nx:xb≠ob:=λ e=>by subst e;exact absurd (fj HX.q2 HX.q1.fo) cj
 have np:pb≠ob:=λ e=>by subst e;exact absurd (fj HX.q3 HX.q1.fo) cj
 have nm:mb≠ob:=λ e=>th HX.q1.fo HX.q5 e.symm;have nk:kb≠ob:=λ e=>by subst e;exact absurd (fj HX.q1.fk HX.q1.fo) cj
 have nk2:kb≠mb:=th HX.q1.fk HX.q5;have no:ob≠mb:=λ e=>nm e.symm;have tH:=HX.q5.only IL nm;have hv2:=HX.q1.upd (k':=vs.length) W6 (HX.q1.fo.drew.aS 0 _) (HX.q1.fk.only IL nk) ⟨vs,rfl,tH⟩;have hxx:=HX.q2.only IL nx;have hpp:=HX.q3.only IL np;refine forget (λ X=>Sv lo H rb ob tb wb kb lb mb vs.length X/\Bk X xb #[I J x] 3/\Bk X pb #[I J x,I J 5] 23/\Only (λ g=>g=ob\/g=mb\/g=kb) W X/\jh X mb vs) ⟨hv2,hxx,hpp,(aw HX.q4).trans W6,tH⟩ ?_;clear W6 IL tH hv2 hxx hpp HM HO c3 l3 f3 c4 l4 cp lp;clear HX;clear X;rintro X ⟨h0,h1,h2,h3,h4⟩;have c4:=h0.ft.cell 0;have l4:=h0.ft.lt;have c5:=h0.fw.cell 0;have l5:=h0.fw.lt;obtain⟨cp,lp⟩:=h2.cl0;have npm:pb≠mb:=th h2 h4;have nxm:xb≠mb:=th h1 h4;have HX:=uF h0 h1 h2 h3 h4 Ye;clear h0 h1 h2 h3 h4;have Ga:vs.length<=2:=by rcases Ye with h|h|h<;>omega
 go_upto_region 4 with(first
  |(refine Ix rfl _ _ rfl rfl (HX.q5.below dE) HX.t5 rfl ?_;intro X1 tu tr;have HM1:=dt tu tr;clear tu tr)
  |(refine mh rfl _ _ _ rfl 3 8 #[I J 0] zS aV cj rfl X.heap.size rfl ((Bk.new X #[I J 0] 3).only HM1.t1 (by have :=HX.q5.lt;omega)) aV cj ?_;intro A8 c8 X2 ew eM;have HM2:=dt (HM1.q1.below eM) eM;clear ew eM)
  |(refine M8 rfl _ _ _ rfl rfl HM2.q1 Ga rfl rfl ?_;intro X3 Aq ru;have HM3:=dt Aq ru;clear Aq ru))
 have DM:Only (λ g=>g=ob\/g=mb\/g=kb) X X3:=(((aw (S:=λ g=>g=ob\/g=mb\/g=kb) (aj X (D #[I J 0] 3))).trans (HM1.t1.mono λ g hg=>.inr (.inl hg))).trans (aw HM2.t1)).trans (HM3.t1.mono λ g hg=>.inr (.inl hg));have Lj:Only (λ g=>g=mb) X X3:=(((aw (S:=λ g=>g=mb) (aj X (D #[I J 0] 3))).trans HM1.t1).trans (aw HM2.t1)).trans HM3.t1;have hv3:=HX.q1.upd (k':=vs.length+1) DM (HX.q1.fo.only Lj no) (HX.q1.fk.only Lj nk2) ⟨_,bY,HM3.q1⟩;refine forget (λ X=>Sv lo H rb ob tb wb kb lb mb (vs.length+1) X/\Bk X xb #[I J x] 3/\Only (λ g=>g=ob\/g=mb\/g=kb) W X) ⟨hv3,HX.q2.only Lj nxm,HX.q4.trans DM⟩ ?_;clear DM Lj hv3 HM1 HM2 HM3 c4 l4 c5 l5 cp lp;have akQ:18<x:=by rcases HX.t5 with⟨_,_,rfl⟩|⟨_,_,rfl⟩|⟨_,_,rfl⟩<;>decide
 obtain⟨z8,hz8⟩:∃x,X.heap.size=x:=⟨_,rfl⟩;rw[hz8];clear hz8 HX;clear X X1 X2 X3;rintro X ⟨h0,h1,h3⟩;have ck:=h0.fk.cell 0;have lk:=h0.fk.lt;obtain⟨cl,ll⟩:=h0.fl.cl0;have HX:=fH h0 h1 h3;clear h0 h1 h3;simp only[Act.put]
 go_wp2_with (first
  |(go_at_call 116;(with_reducible refine(Vh _ _).mono ?_);rintro e Y ⟨rfl,hb⟩;clear ck lk cl ll;have h0:=HX.q1.keep hb;have h1:=HX.q2.below hb;have ck:=h0.fk.cell 0;have lk:=h0.fk.lt;obtain⟨cl,ll⟩:=h0.fl.cl0;have hcon:Calls prog 116 #[G (O ⟨H.g4,0,U⟩) 1 H.c4,.func (.func 135) #[] #[M (O ⟨xb,0,U⟩),M (O ⟨rb,0,U⟩)]] Y (jL (.bool false) Y):=KW Y H.g4 0 H.c4 135 #[M (O ⟨xb,0,U⟩),M (O ⟨rb,0,U⟩)] (I J 10) (I J 0) (I J 18) (I J 30) false h0.fh.x.1 h0.fh.x.off ⟨enters_of func135 aV rfl,λ Z hZ=>agm Z xb rb x akQ ((h1.below hZ).cell 0) (.pV (h0.fr.below hZ))⟩;have HY:=fH h0 (HX.t2.trans (aw hb)) hcon;clear h0 h1 hb hcon)
  |(go_at_call 116;(with_reducible refine HY.t2.mono ?_);rintro e Z ⟨rfl,hb⟩;clear ck lk cl ll;have h0:=HY.q1.keep hb;have ck:=h0.fk.cell 0;have fk:=h0.fk.free 0;have lk:=h0.fk.lt;have HZ:=dt h0 (HY.q2.trans (aw hb));clear h0 hb))
 go_end0;have hb:=HZ.q1;obtain⟨vs',e9,J0⟩:=hb.fm;have hO:Only (λ g=>g=kb) Z (Z.setCell ⟨kb,0,U⟩ (.bool false)):=(Only.refl (λ g=>g=kb) Z).aS (p:=⟨kb,0,U⟩) (.inl rfl) _;have IL:=hO.mono (T:=λ g=>g=ob\/g=mb\/g=kb) λ g hg=>.inr (.inr hg);exact⟨⟨_,rfl⟩,hb.upd IL (hb.fo.only hO (λ e=>nk e.symm)) (hb.fk.aS 0 _) ⟨vs',e9,J0.only hO (λ e=>nk2 e.symm)⟩,HZ.t1.trans IL⟩
theorem Vu(W:agb)(lb qb ob g4 c4:Nat)(x0 x1 x2 x3 x5 x6 x7:R)(F:FuncId)(jz:Array R)(hl:Bk W lb #[x0,x1,x2,x3,G (O ⟨g4,0,U⟩) 1 c4,x5,x6,x7] 85)(hq:Bk W qb #[G (O ⟨ob,0,U⟩) 1 1] 259)(ho:Bk W ob #[.bool true] 4)(hx:gp W g4 E8)(hF:Says W F (#[.agg E8]++jz) true):
 Calls prog 133 #[.func (.func F) #[] jz,M (O ⟨lb,0,U⟩),M (O ⟨qb,0,U⟩)] W λ e W'=>e=.returned (.bool true)/\aZ W W':=by
 obtain⟨cl,ll⟩:=hl.cl0;have cq:=hq.cell 0;have lq:=hq.lt;have co:=ho.cell 0;have lo:=ho.lt;have v0:=hx.2 0 _ rfl;have v1:=hx.2 1 _ rfl;have v2:=hx.2 2 _ rfl;have v3:=hx.2 3 _ rfl;have vg:=hx.1;have KO:=hF.1;have HF:=aG hF.2;clear hl hq ho hx hF;go_enter func133,ntmps133;go_wp2_with fail;refine wp_loop_rounds 1 ?_;rw[rounds_succ];go_wp2_with (go_at_fn F;(refine(HF.o _ dE).mono ?_);rintro e X1 ⟨rfl,hb⟩;have H1:=aG (aq dE hb:aZ W X1);clear hb);go_ret;exact⟨rfl,H1.o⟩
theorem agp(W:agb)(a b rb:Nat)(h0:W.cell? ⟨a,0,U⟩=O (I J 18))(hr:gp W rb fT):Calls prog 137 (#[.agg E8]++#[M (O ⟨a,0,U⟩),M (O ⟨rb,0,U⟩),M (O ⟨b,0,U⟩)]) W λ e W'=>e=.returned (.bool true)/\aZ W W':=by have v2:=hr.2 2 _ rfl;have lr:=hr.1;have la:=World.block_lt_of_cell? _ _ h0;clear hr;show Calls prog 137 #[.agg E8,M (O ⟨a,0,U⟩),M (O ⟨rb,0,U⟩),M (O ⟨b,0,U⟩)] W _;go_enter func137,ntmps137;go_wp2_with (go_at_call 136;(refine(s8 _ 10 0 18 30 18 5 true cj).mono ?_);rintro e X1 ⟨rfl,hb⟩;have H1:=aG hb;clear hb);go_ret;exact⟨rfl,aq dE H1.o⟩
theorem agq(W:agb)(ab:Nat)(ha:gp W ab (qW 2)):Calls prog 140 (#[.agg E8]++#[M (O ⟨ab,0,U⟩)]) W λ e W'=>e=.returned (.bool true)/\aZ W W':=by have v0:=ha.2 0 _ rfl;have v1:=ha.2 1 _ rfl;have v2:=ha.2 2 _ rfl;have v3:=ha.2 3 _ rfl;have v4:=ha.2 4 _ rfl;have v5:=ha.2 5 _ rfl;have v6:=ha.2 6 _ rfl;have vg:=ha.1;clear ha;show Calls prog 140 #[.agg E8,M (O ⟨ab,0,U⟩)] W _;go_enter func140,ntmps140;go_wp2_with (go_at_call 139;(refine(KX _ 18 20 28 24 10 0 18 30 cj cj).mono ?_);rintro e X1 ⟨rfl,hb⟩;have H1:=aG hb;clear hb);go_ret;exact⟨rfl,aq dE H1.o⟩
theorem agr(W:agb)(ib ab rb:Nat)(s x:Int)(hi:Bk W ib #[.bool false] 4)(ha:gp W ab (qW 2))(hr:gp W rb fT):
 Calls prog 138 #[I J s,I J x,M (O ⟨ib,0,U⟩),M (O ⟨ab,0,U⟩),M (O ⟨rb,0,U⟩)] W λ r W'=>(∃v,r=.returned v)/\Bk W' ib #[.bool false] 4/\Only (λ g=>g=ib) W W':=by
 have v0:=ha.2 0 _ rfl;have v1:=ha.2 1 _ rfl;have v2:=ha.2 2 _ rfl;have v3:=ha.2 3 _ rfl;have v4:=ha.2 4 _ rfl;have v5:=ha.2 5 _ rfl;have v6:=ha.2 6 _ rfl;have vg:=ha.1;have y2:=hr.2 2 _ rfl;have lr:=hr.1;have ci:=hi.cell 0;have fi:=hi.free 0;have li:=hi.lt;have HH:=aG hi;clear ha hr hi;go_enter func138,ntmps138;go_wp2_with (go_at_call 136;(refine(s8 _ 18 20 28 24 x 5 false bY).mono ?_);rintro e X1 ⟨rfl,hb⟩;clear ci fi li;have k:=HH.o.below hb;have ci:=k.cell 0;have fi:=k.free 0;have li:=k.lt;have H1:=dt k hb;clear k hb);go_end0;have hO:Only (λ g=>g=ib) X1 (X1.setCell ⟨ib,0,U⟩ (.bool false)):=(Only.refl (λ g=>g=ib) X1).aS (p:=⟨ib,0,U⟩) (.inl rfl) _;exact⟨⟨_,rfl⟩,H1.q1.aS 0 _,(aw H1.t1).trans hO⟩
end
section
open Go.RowKit Go.Shelf
attribute [local go_sem] aQ aC bW jC
structure Sw(W:agb)(H:Hx)(lb qb zb wb tb mb:Nat)(v:R)(X:agb):Prop where
 fh:fS H X
 fl:Bk X lb (oY H) 85
 fq:Bk X qb #[G (O ⟨zb,0,U⟩) 1 1] 259
 fz:Bk X zb #[.bool true] 4
 fw:Bk X wb #[v] 161
 ft:Bk X tb #[.map (O mb)] 262
 fm:∃vs,jh X mb vs
 fo:aZ W X
 fn:wS H W.heap.size/\W.heap.size<=lb/\W.heap.size<=qb/\W.heap.size<zb/\W.heap.size<=wb/\W.heap.size<=tb/\W.heap.size<=mb
theorem Et{X X':agb}(h:Only (λ g=>(U:Option Nat)=O g) X X'):aZ X X':=h.aK (λ g hg=>by cases hg) (ah _)
theorem Sw.keep{W X X':agb}{H:Hx}{lb qb zb wb tb mb:Nat}{v:R}(h:Sw W H lb qb zb wb tb mb v X)(hb:aZ X X'):Sw W H lb qb zb wb tb mb v X':=by obtain⟨vs,h1⟩:=h.fm;exact⟨h.fh.keep hb,h.fl.below hb,h.fq.below hb,h.fz.below hb,h.fw.below hb,h.ft.below hb,⟨vs,h1.below hb⟩,h.fo.trans (hb.mono h.fo.size),h.fn⟩
theorem Sw.akS{W X X':agb}{H:Hx}{lb qb zb wb tb mb:Nat}{v v':R}(h:Sw W H lb qb zb wb tb mb v X)(ho:Only (λ g=>g=wb) X X')(hv:Bk X' wb #[v'] 161):Sw W H lb qb zb wb tb mb v' X':=by
 obtain⟨vs,hm⟩:=h.fm
 have n:∀{g:Nat}{C:Array R}{t:TypeId},Bk X g C t->t≠161->¬(g=wb):=λ{g C t} hg n1 e=>by subst e;exact n1 (fj hg h.fw)
 exact⟨h.fh.only h.fn.1 ho (λ g hg=>by have :=h.fn.2;omega),h.fl.only ho (n h.fl cj),h.fq.only ho (n h.fq cj),h.fz.only ho (n h.fz cj),hv,h.ft.only ho (n h.ft cj),⟨vs,hm.only ho λ e=>th h.fw hm e.symm⟩,h.fo.trans (ho.aK (λ g hg=>by have :=h.fn.2;omega) h.fo.size),h.fn⟩
theorem Sw.flag{W X X':agb}{H:Hx}{lb qb zb wb tb mb ib:Nat}{v:R}{C:Array R}(h:Sw W H lb qb zb wb tb mb v X)(hi:Bk X ib C 4)(ho:Only (λ g=>g=ib) X X')(hz:zb≠ib)(hl:W.heap.size<=ib):Sw W H lb qb zb wb tb mb v X':=by
 obtain⟨vs,hm⟩:=h.fm
 have n:∀{g:Nat}{C:Array R}{t:TypeId},Bk X g C t->t≠4->¬(g=ib):=λ{g C t} hg n1 e=>by subst e;exact n1 (fj hg hi)
 exact⟨h.fh.only h.fn.1 ho (λ g hg=>ar),h.fl.only ho (n h.fl cj),h.fq.only ho (n h.fq cj),h.fz.only ho hz,h.fw.only ho (n h.fw cj),h.ft.only ho (n h.ft cj),⟨vs,hm.only ho λ e=>th hi hm e.symm⟩,h.fo.trans (ho.aK (λ g hg=>ar) h.fo.size),h.fn⟩
theorem K4(X:agb):Calls prog 40 #[G U 0 0] X λ e X'=>(∃A c,e=.returned (G A 0 c))/\aZ X X':=
 (qE X 0 0 (G U 0 0) [] cH.nil).mono λ e X' ⟨A,c,h1,_,_,h2⟩=>⟨⟨A,c,h1⟩,Et h2⟩
theorem QO(W:agb)(H:Hx)(cb:Nat)(h:fS H W):
 Calls prog 68 #[M (O ⟨cb,0,U⟩),.agg (oY H)] W λ r W'=>(∃v,r=.returned v)/\aZ W W':=by
 have C9:∀(fn:Fn)(first cap:Array R)(w:agb),(Instr.makeFunc fn first cap).run prog w=.ok (.func fn first cap) w:=λ _ _ _ _=>rfl;have qf:= @run_makeMap prog;have HH:=aG h;replace h:=h.bound;go_enter func68,ntmps68;go_upto_region 2 with(go_at_call 132;(refine(QN _ H (HH.o.keep (aj _ _))).mono ?_);rintro e X1 ⟨⟨zb,rfl,hz,hzb⟩,hb⟩;have H1:=fH hz hzb hb;clear hz hzb hb);obtain⟨lb,oy⟩:∃x,W.heap.size=x:=⟨_,rfl⟩;obtain⟨qb,hqb⟩:∃x,X1.heap.size=x:=⟨_,rfl⟩;have hz:W.heap.size<zb:=by have :=H1.q1;simp at this;omega
 have hz2:zb<qb:=by have :=H1.q2.lt;omega
 have b1:aZ W X1:=aq (aj _ _) H1.t2;have k1:=(au W lb (oY H) 85 oy).below H1.t2;have b2:=aj X1 (D #[G (O ⟨zb,0,U⟩) 1 1] 259);have b3:aZ W (X1.alloc (D #[G (O ⟨zb,0,U⟩) 1 1] 259)):=b1.trans (b2.mono b1.size);rw[oy,hqb];refine forget (λ X=>fS H X/\Bk X lb (oY H) 85/\Bk X qb #[G (O ⟨zb,0,U⟩) 1 1] 259/\Bk X zb #[.bool true] 4/\aZ W X) ⟨HH.o.keep b3,k1.below b2,au _ _ _ _ hqb,H1.q2.below b2,b3⟩ ?_;clear b1 k1 b2 b3 hqb H1 HH;clear X1;rintro X ⟨h1,h2,h3,h4,h5⟩;have HX:=lQ h1 h2 h3 h4 h5;have HB:=aG (show wS H W.heap.size from h);clear h1 h2 h3 h4 h5;go_upto_region 5 with fail;clear qf;obtain⟨wb,hwb⟩:∃x,X.heap.size=x:=⟨_,rfl⟩;obtain⟨mb,ug⟩:∃x,wb+1=x:=⟨_,rfl⟩;obtain⟨tb,uG⟩:∃x,mb+1=x:=⟨_,rfl⟩;rw[hwb,ug,uG];have b0:aZ X (((X.alloc (D #[G U 0 0] 161)).alloc (.map #[] 0)).alloc (D #[.map (O mb)] 262)):=dE;have k1:=((au X wb #[G U 0 0] 161 hwb).alloc (.map #[] 0)).alloc (D #[.map (O mb)] 262);have k2:=au ((X.alloc (D #[G U 0 0] 161)).alloc (.map #[] 0)) tb #[.map (O mb)] 262 gW
 have k3:jh ((X.alloc (D #[G U 0 0] 161)).alloc (.map #[] 0)) mb []:=by have :=heap_alloc_new (X.alloc (D #[G U 0 0] 161)) (.map #[] 0);rw[show(X.alloc (D #[G U 0 0] 161)).heap.size=mb by simp;omega] at this;exact this
 have hX:=HX.o;have hzz:=hX.2.2.2.2.size;refine forget (λ X=>Sw W H lb qb zb wb tb mb (G U 0 0) X/\jh X mb []) ⟨⟨hX.1.keep b0,hX.2.1.below b0,hX.2.2.1.below b0,hX.2.2.2.1.below b0,k1,k2,⟨[],k3.below (aj _ _)⟩,hX.2.2.2.2.trans (b0.mono hzz),HB.o,ar,ar,ar,ar,ar,ar⟩,k3.below (aj _ _)⟩ ?_;clear b0 k1 k2 k3 hX hzz hwb ug uG HX HB oy hz hz2;clear X;rintro X ⟨h1,h2⟩;obtain⟨cl,ll⟩:=h1.fl.cl0;have hb:=h1.fh.b;have v0:=hb.2 0 _ rfl;have v1:=hb.2 1 _ rfl;have v2:=hb.2 2 _ rfl;have vg:=hb.1;have HX:=dt h1 h2;clear h1 h2 hb;go_wp2_with fail;refine wp_loop_rounds 2 ?_;rw[rounds_succ];have hr:=HX.q1.fh.r;have y0:=hr.2 0 _ rfl;have y1:=hr.2 1 _ rfl;have y2:=hr.2 2 _ rfl;have y3:=hr.2 3 _ rfl;have y4:=hr.2 4 _ rfl;have y5:=hr.2 5 _ rfl;have y6:=hr.2 6 _ rfl;have y7:=hr.2 7 _ rfl;have yg:=hr.1;clear hr;go_wp2_with fail;refine wp_loop_rounds 2 ?_;rw[rounds_succ];go_upto_region 13 with fail;clear v0 v1 v2 vg;clear y0 y1 y2 y3 y4 y5 y6 y7 yg;clear cl ll;obtain⟨bb,mN⟩:∃x,X.heap.size=x:=⟨_,rfl⟩;obtain⟨rb,kS⟩:∃x,bb+1=x:=⟨_,rfl⟩;obtain⟨ob,oJ⟩:∃x,rb+1=x:=⟨_,rfl⟩;obtain⟨kb,hkb⟩:∃x,ob+1=x:=⟨_,rfl⟩;rw[mN,kS,oJ,hkb];have b0:aZ X ((((X.alloc (D (QL H) 163)).alloc (D fT 166)).alloc (D #[G U 0 0] 117)).alloc (D #[.bool false] 4)):=dE;have k1:=((au (X.alloc (D (QL H) 163)) rb fT 166 gW).alloc (D #[G U 0 0] 117)).alloc (D #[.bool false] 4);have k2:=(au ((X.alloc (D (QL H) 163)).alloc (D fT 166)) ob #[G U 0 0] 117 gW).alloc (D #[.bool false] 4);have k3:=au (((X.alloc (D (QL H) 163)).alloc (D fT 166)).alloc (D #[G U 0 0] 117)) kb #[.bool false] 4 gW;have h1:=HX.q1.keep b0;have h2:=HX.t1.below b0;have hz1:=HX.q1.fz.lt;have hz2:=HX.q1.fo.size;have nz:zb≠kb:=ar;have no1:W.heap.size<=ob:=ar;have no2:W.heap.size<=kb:=ar;have hfn:=HX.q1.fn;refine forget (λ X=>Sw W H lb qb zb wb tb mb (G U 0 0) X/\Sv W.heap.size H rb ob tb wb kb lb mb 0 X) ⟨h1,⟨h1.fh,k1,k2,h1.ft,h1.fw,k3,h1.fl,⟨[],rfl,h2⟩,hfn.1,no1,hfn.2.2.2.2.2.2,no2⟩⟩ ?_;clear b0 k1 k2 k3 h1 h2 hz1 hz2 mN kS oJ hkb HX;clear X;rintro X ⟨h1,h2⟩;have cr:=h2.fr.cell
 have lr:=h2.fr.lt
 have hst:Calls prog 64 #[.agg fT,.func (.func 134) #[] #[M (O ⟨rb,0,U⟩),M (O ⟨ob,0,U⟩),M (O ⟨tb,0,U⟩),M (O ⟨wb,0,U⟩),M (O ⟨kb,0,U⟩),M (O ⟨lb,0,U⟩)]] X λ r W'=>(∃v,r=.returned v)/\(Sw W H lb qb zb wb tb mb (G U 0 0) W'/\Sv W.heap.size H rb ob tb wb kb lb mb 3 W')/\X.heap.size<=W'.heap.size:=by
  refine yB X 134 _ (λ k X=>Sw W H lb qb zb wb tb mb (G U 0 0) X/\Sv W.heap.size H rb ob tb wb kb lb mb k X) (enters_of func134 aV rfl) (λ k X X' h hb=>⟨h.1.keep hb,h.2.keep hb⟩) (λ k s x Y hs hI hz=>?_) ⟨h1,h2⟩;refine(agn Y H W.heap.size rb ob tb wb kb lb mb k s x hs hI.2).mono ?_;rintro r Y' ⟨hv,hS,hO⟩;obtain⟨vs,_,hm⟩:=hI.2.fm;have hq:=hI.1
  have n:∀{g:Nat}{C:Array R}{t:TypeId},Bk Y g C t->t≠117->t≠4->¬(g=ob\/g=mb\/g=kb):=λ{g C t} hg n1 n2=>by
   rintro(rfl|rfl|rfl)
   · exact n1 (fj hg hI.2.fo)
   · exact th hg hm rfl
   · exact n2 (fj hg hI.2.fk)
  have nzz:¬(zb=ob\/zb=mb\/zb=kb):=by
   rintro(rfl|rfl|e)
   · exact absurd (fj hq.fz hI.2.fo) cj
   · exact th hq.fz hm rfl
   · exact nz e
  refine⟨hv,⟨⟨hS.fh,hS.fl,hq.fq.only hO (n hq.fq cj cj),hq.fz.only hO nzz,hS.fw,hS.ft,?_,hq.fo.trans (hO.aK (λ g hg=>by have :=hfn.2.2.2.2.2.2;omega) hq.fo.size),hfn⟩,hS⟩,hO.size,λ rb' C _ hb=>hb.only hO (n hb cj cj)⟩;obtain⟨vs',_,EY⟩:=hS.fm;exact⟨vs',EY⟩
 have HS:=aG hst;clear h1 h2 hst;go_upto_region 14 with(go_at_call 64;(with_reducible refine HS.o.mono ?_);rintro r X1 ⟨⟨v,rfl⟩,⟨h1,h2⟩,hz⟩;have H1:=dt h1 h2;clear h1 h2 hz);have co:=H1.t1.fo.cell 0;have lo:=H1.t1.fo.lt;clear cr lr HS;go_upto_region 15 with(go_at_call 39;(refine(yh X1 0 0 (G U 0 0) [] cH.nil cj).mono ?_);rintro e X2 ⟨rfl,-,q2⟩;have hb:=Et q2;have H2:=dt (H1.q1.keep hb) (H1.t1.keep hb);clear q2 hb);clear co lo;have co:=H2.t1.fo.cell 0;have lo:=H2.t1.fo.lt;go_upto_region 16 with(go_at_call 40;(refine(K4 X2).mono ?_);rintro e X3 ⟨⟨A3,c3,rfl⟩,hb⟩;have H3:=dt (H2.q1.keep hb) (H2.t1.keep hb);clear hb);clear co lo;refine wp_loop_rounds 1 ?_;rw[rounds_succ];have ck:=H3.t1.fk.cell 0;have lk:=H3.t1.fk.lt;go_upto_region 22 with fail;clear ck lk;obtain⟨cr,lr⟩:=H3.t1.fr.cl0;go_cut [16,17] (λ p q X'=>∃a b,p=M (O ⟨a,0,U⟩)/\q=M (O ⟨b,0,U⟩)/\Bk X' a #[I J 18] 3/\aZ X3 X')
 case first =>
  have HO:Hid (aZ X3 X3.drew):=aG ((aA _ X3).drew);refine ui (S:=λ w'=>∃u,w'=ext X3 u) [([0,1,2,3,4,5,6,7,8,9,10,11,12,13,14,15,16],[])] 17 18 [([],[19])] 20 aV aV (iJ HO.o) ?_;(refine bT (λ K9 h9=>?_);simp only[aH,aU,aW,aa,ae];(repeat(go_big_quiet_step (fail)));refine wpQuiet_nil (h9 _ ?_);clear h9 K9)
  refine bU (dF ⟨?_,?_⟩)
  · refine jM (λ K9 h9=>?_)
    simp only[aW,aa,ae];go_wp2_with fail;refine h9 _ _ (iJ dE) ?_;clear h9 K9;refine jM (λ K9 h9=>?_);simp only[aW,aa,ae];go_wp2_with fail;refine h9 _ _ (iJ dE) ?_;clear h9 K9;refine bT (λ K9 h9=>?_);simp only[aU];refine wpQuiet_nil (h9 _ ?_);clear h9 K9;(refine cM (λ K9 h9=>?_);simp only[aW,aa,ae])
    go_wp2_with fail;refine h9 _ _ (iJ dE) ?_;clear h9 K9;refine bU (dF ?_);simp only[aW,aa,ae];go_wp2_with fail;go_meet;exact⟨X3.heap.size,X3.heap.size+1,rfl,rfl,((Bk.new X3 _ _).alloc _).drew,dE⟩
  · refine jM (λ K9 h9=>?_)
    simp only[aW,aa,ae];go_wp2_with fail;refine h9 _ _ (iJ dE) ?_;clear h9 K9;refine jM (λ K9 h9=>?_);simp only[aW,aa,ae];go_wp2_with fail;refine h9 _ _ (iJ dE) ?_;clear h9 K9;refine bT (λ K9 h9=>?_);simp only[aU];refine wpQuiet_nil (h9 _ ?_);clear h9 K9;(refine cM (λ K9 h9=>?_);simp only[aW,aa,ae])
    go_wp2_with fail;refine h9 _ _ (iJ dE) ?_;clear h9 K9;refine bU (dF ?_);simp only[aW,aa,ae];go_wp2_with fail;go_meet;exact⟨X3.heap.size+1,X3.heap.size,rfl,rfl,(au _ _ _ _ bY).drew,dE⟩
 case rest=>
  obtain⟨X4,Ae⟩:∃X,X=wc:=⟨_,rfl⟩;rw[<-Ae] at hcut⊢;clear Ae cr lr;obtain⟨a,b,rfl,rfl,hka,hbc⟩:=hcut;have h1:=H3.q1.keep hbc;have h2:=H3.t1.keep hbc;obtain⟨cr,lr⟩:=h2.fr.cl0;have cw:=h2.fw.cell 0;have lw:=h2.fw.lt
  have hop:Calls prog 133 #[.func (.func 137) #[] #[M (O ⟨a,0,U⟩),M (O ⟨rb,0,U⟩),M (O ⟨b,0,U⟩)],M (O ⟨lb,0,U⟩),M (O ⟨qb,0,U⟩)] X4 λ e W'=>e=.returned (.bool true)/\aZ X4 W':=
   Vu X4 lb qb zb H.g4 H.c4 _ _ _ _ _ _ _ 137 _ h1.fl h1.fq h1.fz h1.fh.x ⟨enters_of func137 aV rfl,λ Z hZ=>agp Z a b rb ((hka.below hZ).cell 0) (.pV (h2.fr.below hZ))⟩
  have H4:=fH h1 h2 hop;clear h1 h2 hop hka hbc H3 H2 H1;go_upto_region 25 with(go_at_call 133;(with_reducible refine H4.t2.mono ?_);rintro e X5 ⟨rfl,hb⟩;clear cr lr cw lw;have h1:=H4.q1.keep hb;have h2:=H4.q2.keep hb;obtain⟨cr,lr⟩:=h2.fr.cl0;have cw:=h2.fw.cell 0;have lw:=h2.fw.lt;have H5:=dt h1 h2;clear h1 h2 hb);go_hide hQ
  go_wp2_with (first
   |(refine iz rfl 161 166 _ rfl fT rfl zT aV bY bY aV ?_)
   |(refine mh rfl _ _ _ rfl 166 88 fT zT aV cj rfl X5.heap.size rfl (Bk.new X5 fT 166) aV cj ?_;intro A8 c8 X6 ew eM;have Yw:aZ X5 X6:=aq dE eM;clear cw lw;have h1:=H5.q1.keep Yw;have cw:=h1.fw.cell 0;have fw:=h1.fw.free 0;have lw:=h1.fw.lt;have H6:=dt h1 ew;clear h1 ew eM Yw))
  obtain⟨g8,c9,e9,Aj,aac⟩:=qP (n:=0) H6.t1 cj;cases e9
  have hO:Only (λ g=>g=wb) X6 (X6.setCell ⟨wb,0,U⟩ (G (O ⟨g8,0,U⟩) (0+1) c8)):=(Only.refl (λ g=>g=wb) X6).aS (p:=⟨wb,0,U⟩) (.inl rfl) _;have hsw:Sw W H lb qb zb wb tb mb (G (O ⟨g8,0,U⟩) 1 c8) _:=H6.q1.akS hO (H6.q1.fw.aS 0 _);have hwl:=H5.q1.fw.lt;have hwg:¬g8=wb:=by simp at Aj;omega
  have E2:=aac.only hO hwg;obtain⟨X7,hX7⟩:∃X,X6.setCell ⟨wb,0,U⟩ (G (O ⟨g8,0,U⟩) (0+1) c8)=X:=⟨_,rfl⟩;rw[hX7] at hsw E2;rw[show X6.setCell ⟨wb,0,U⟩ (G (O ⟨g8,0,U⟩) 1 c8)=X7 from hX7];have H7:=dt hsw E2;obtain⟨cl,ll⟩:=hsw.fl.cl0;clear hX7 hsw E2 hO hwl hwg aac Aj H6 H5 H4 cw fw lw cr lr;rw[<-hQ];clear hQ;go_wp2_with fail;rw[rounds_succ];go_wp2_with fail;rw[rounds_succ];go_wp2_with fail;refine wp_loop_rounds 2 ?_;rw[rounds_succ];have ha:=H7.q1.fh.a;have y0:=ha.2 0 _ rfl;have y1:=ha.2 1 _ rfl;have y2:=ha.2 2 _ rfl;have y3:=ha.2 3 _ rfl;have y4:=ha.2 4 _ rfl;have y5:=ha.2 5 _ rfl;have y6:=ha.2 6 _ rfl;have yg:=ha.1;clear ha;have cw:=H7.q1.fw.cell 0;have lw:=H7.q1.fw.lt;go_upto_region 31 with fail;clear y0 y1 y2 y3 y4 y5 y6 yg;have hr:=H7.t1;have y0:=hr.2 0 _ rfl;have y1:=hr.2 1 _ rfl;have y2:=hr.2 2 _ rfl;have y3:=hr.2 3 _ rfl;have y4:=hr.2 4 _ rfl;have y5:=hr.2 5 _ rfl;have y6:=hr.2 6 _ rfl;have y7:=hr.2 7 _ rfl;have yg:=hr.1;clear hr;go_wp2_with fail;refine wp_loop_rounds 2 ?_;rw[rounds_succ];go_upto_region 35 with fail;clear y0 y1 y2 y3 y4 y5 y6 y7 yg;clear cw lw cl ll;obtain⟨ab,hab⟩:∃x,X7.heap.size=x:=⟨_,rfl⟩;obtain⟨r2,hr2⟩:∃x,ab+1=x:=⟨_,rfl⟩;obtain⟨ib,hib⟩:∃x,r2+1=x:=⟨_,rfl⟩;rw[hab,hr2,hib];have b0:aZ X7 (((X7.alloc (D (qW 2) 171)).alloc (D fT 166)).alloc (D #[.bool false] 4)):=dE;have k1:=((au X7 ab (qW 2) 171 hab).alloc (D fT 166)).alloc (D #[.bool false] 4);have k2:=(au (X7.alloc (D (qW 2) 171)) r2 fT 166 gW).alloc (D #[.bool false] 4);have k3:=au ((X7.alloc (D (qW 2) 171)).alloc (D fT 166)) ib #[.bool false] 4 gW;have h1:=H7.q1.keep b0;have h2:=H7.t1.keep b0;have nz2:zb≠ib:=by have :=H7.q1.fz.lt;omega
  have ng:¬g8=ib:=by have :=H7.q2;omega
  have ni:W.heap.size<=ib:=by have :=H7.q1.fo.size;omega
  refine forget (λ X=>Sw W H lb qb zb wb tb mb (G (O ⟨g8,0,U⟩) 1 c8) X/\gp X g8 fT/\Bk X ab (qW 2) 171/\Bk X r2 fT 166/\Bk X ib #[.bool false] 4) ⟨h1,h2,k1,k2,k3⟩ ?_;clear b0 k1 k2 k3 h1 h2 hab hr2 hib H7;rintro X8 ⟨h1,h2,h3,h4,h5⟩;obtain⟨cr,lr⟩:=h4.cl0
  have hst:Calls prog 64 #[.agg fT,.func (.func 138) #[] #[M (O ⟨ib,0,U⟩),M (O ⟨ab,0,U⟩),M (O ⟨r2,0,U⟩)]] X8 λ r W'=>(∃v,r=.returned v)/\(Sw W H lb qb zb wb tb mb (G (O ⟨g8,0,U⟩) 1 c8) W'/\gp W' g8 fT/\Bk W' ab (qW 2) 171/\Bk W' r2 fT 166/\Bk W' ib #[.bool false] 4)/\X8.heap.size<=W'.heap.size:=by
   refine yB X8 138 _ (λ k X=>Sw W H lb qb zb wb tb mb (G (O ⟨g8,0,U⟩) 1 c8) X/\gp X g8 fT/\Bk X ab (qW 2) 171/\Bk X r2 fT 166/\Bk X ib #[.bool false] 4) (enters_of func138 aV rfl) (λ k X X' h hb=>⟨h.1.keep hb,h.2.1.keep hb,h.2.2.1.below hb,h.2.2.2.1.below hb,h.2.2.2.2.below hb⟩) (λ k s x Y hs hI hz=>?_) ⟨h1,h2,h3,h4,h5⟩;refine(agr Y ib ab r2 s x hI.2.2.2.2 (.pV hI.2.2.1) (.pV hI.2.2.2.1)).mono ?_;rintro r Y' ⟨hv,hi,hO⟩
   have n:∀{g:Nat}{C:Array R}{t:TypeId},Bk Y g C t->t≠4->¬(g=ib):=λ{g C t} hg n1 e=>by subst e;exact n1 (fj hg hI.2.2.2.2)
   exact⟨hv,⟨hI.1.flag hI.2.2.2.2 hO nz2 ni,hI.2.1.only hO ng,hI.2.2.1.only hO (n hI.2.2.1 cj),hI.2.2.2.1.only hO (n hI.2.2.2.1 cj),hi⟩,hO.size,λ rb' C _ hb=>hb.only hO (n hb cj)⟩
  have HS:=aG hst;clear h1 h2 h3 h4 h5 hst;go_upto_region 36 with(go_at_call 64;(with_reducible refine HS.o.mono ?_);rintro r X9 ⟨⟨v,rfl⟩,⟨h1,h2,h3,h4,h5⟩,hz⟩;clear cr lr;have ci:=h5.cell 0;have li:=h5.lt;obtain⟨cl,ll⟩:=h1.fl.cl0;have H9:=dt h1 h3;clear h1 h2 h3 h4 h5 hz);clear HS;go_wp2_with fail;rw[rounds_succ];go_wp2_with fail;refine wp_loop_rounds 1 ?_;rw[rounds_succ]
  have hop:Calls prog 133 #[.func (.func 140) #[] #[M (O ⟨ab,0,U⟩)],M (O ⟨lb,0,U⟩),M (O ⟨qb,0,U⟩)] X9 λ e W'=>e=.returned (.bool true)/\aZ X9 W':=
   Vu X9 lb qb zb H.g4 H.c4 _ _ _ _ _ _ _ 140 _ H9.q1.fl H9.q1.fq H9.q1.fz H9.q1.fh.x ⟨enters_of func140 aV rfl,λ Z hZ=>agq Z ab ((gp.pV H9.t1).keep hZ)⟩
  have HP:=aG hop;clear hop;go_wp2_with (go_at_call 133;(with_reducible refine HP.o.mono ?_);rintro e XA ⟨rfl,hb⟩;have HA:=aG (H9.q1.fo.trans (hb.mono H9.q1.fo.size));clear hb);rw[rounds_succ];clear ci li cl ll;go_wp2_with fail;go_end0;exact⟨⟨_,rfl⟩,HA.o⟩
end
section
open Go.RowKit Go.Shelf
attribute [local go_sem] aQ aC bW
theorem Vv(W:agb)(b c:Nat)(x y:Int)(hx:0<=x/\x<=30)(hy:0<=y/\y<=30)(h:gp W b #[I J x,I J y,I J 0,I J 0,I J 0]):
 Calls prog 183 #[G (O ⟨b,0,U⟩) 5 c] W λ e W'=>e=.returned (.bool true)/\aZ W W':=by
 have v0:=h.2 0 _ rfl;have v1:=h.2 1 _ rfl;have v2:=h.2 2 _ rfl;have v3:=h.2 3 _ rfl;have v4:=h.2 4 _ rfl;have vg:=h.1;have h1:¬x<0:=ar;have h2:¬10000<x:=ar;have h3:¬y<0:=ar;have h4:¬10000<y:=ar;clear h hx hy;go_enter func183,ntmps183;go_wp2_with fail;refine wp_loop_rounds 6 ?_;rw[rounds_succ];go_wp2_with fail;rw[rounds_succ];go_wp2_with fail;rw[rounds_succ];go_wp2_with fail;rw[rounds_succ];go_wp2_with fail;rw[rounds_succ];go_wp2_with fail;rw[rounds_succ];go_wp2_with fail;go_ret;exact⟨rfl,aA _ _⟩
theorem K5(W:agb)(b:Nat):Calls prog 184 #[.bool false,M (O ⟨b,0,U⟩)] W λ e W'=>(∃v,e=.returned v)/\aZ W W':=by go_enter func184,ntmps184;go_wp2_with fail;go_end0;exact⟨⟨_,rfl⟩,aA _ _⟩
theorem Vw(W:agb)(H:Hx)(x y:Int)(hx:0<=x/\x<=30)(hy:0<=y/\y<=30)(h:fS H W):
 Calls prog 142 #[.agg (yM H),I J 0,.agg #[I J x,I J y]] W λ e W'=>e=.returned (I J 0)/\aZ W W':=by
 have C9:∀(fn:Fn)(first cap:Array R)(w:agb),(Instr.makeFunc fn first cap).run prog w=.ok (.func fn first cap) w:=λ _ _ _ _=>rfl;have hl:=h.l;have v0:=hl.2 0 _ rfl;have v1:=hl.2 1 _ rfl;have v2:=hl.2 2 _ rfl;have v3:=hl.2 3 _ rfl;have v4:=hl.2 4 _ rfl;have v5:=hl.2 5 _ rfl;have v6:=hl.2 6 _ rfl;have v7:=hl.2 7 _ rfl;have vg:=hl.1;have HH:=fH h hx hy;clear h hl hx hy;go_enter func142,ntmps142;go_upto_region 4 with fail;clear v0 v1 v2 v3 v4 v5 v6 v7 vg;obtain⟨hb,rK⟩:∃x,W.heap.size=x:=⟨_,rfl⟩;obtain⟨pb,oU⟩:∃x,hb+1=x:=⟨_,rfl⟩;obtain⟨lb,oy⟩:∃x,pb+1=x:=⟨_,rfl⟩;rw[rK,oU,oy];have b0:aZ W (((W.alloc (D (yM H) 26)).alloc (D #[I J x,I J y] 23)).alloc (D (oY H) 85)):=dE;have k1:=((au W hb (yM H) 26 rK).alloc (D #[I J x,I J y] 23)).alloc (D (oY H) 85);have k2:=(au (W.alloc (D (yM H) 26)) pb #[I J x,I J y] 23 gW).alloc (D (oY H) 85);have k3:=au ((W.alloc (D (yM H) 26)).alloc (D #[I J x,I J y] 23)) lb (oY H) 85 gW;refine forget (λ X=>Bk X hb (yM H) 26/\Bk X pb #[I J x,I J y] 23/\Bk X lb (oY H) 85/\aZ W X) ⟨k1,k2,k3,b0⟩ ?_;clear b0 k1 k2 k3 rK oU oy;rintro X ⟨h1,h2,h3,h4⟩;obtain⟨c1,l1⟩:=h1.cl0;obtain⟨c2,l2⟩:=h2.cl0;obtain⟨c3,l3⟩:=h3.cl0;have HX:=iM h1 h2 h3 h4;clear h1 h2 h3 h4;go_upto_region 6 with(go_at_call 183;(refine(Vv _ _ _ x y HH.q2 HH.t2 (.pV (Bk.new _ _ _))).mono ?_);rintro e X1 ⟨rfl,hb⟩;have hb1:aZ X X1:=aq dE hb;clear c1 l1 c2 l2 c3 l3;have h1:=HX.q1.below hb1;have h2:=HX.q2.below hb1;have h3:=HX.q3.below hb1;have h4:=HX.t3.trans (hb1.mono HX.t3.size);have H1:=iM h1 h2 h3 h4;clear h1 h2 h3 h4 hb hb1);obtain⟨c1,l1⟩:=H1.q1.cl0;obtain⟨c2,l2⟩:=H1.q2.cl0
 have Sb:(0:Int)<=x*x/\x*x<=900/\0<=y*y/\y*y<=900:=by have hx:=HH.q2;have hy:=HH.t2;have :=Int.mul_le_mul hx.2 hx.2 hx.1 ar;have :=Int.mul_le_mul hy.2 hy.2 hy.1 ar;have :=Int.mul_nonneg hx.1 hx.1;have :=Int.mul_nonneg hy.1 hy.1;omega
 have hx:=HH.q2;have hy:=HH.t2;go_upto_region 8 with fail;clear c1 l1 c2 l2;obtain⟨nb,nS⟩:∃x,X1.heap.size=x:=⟨_,rfl⟩;rw[nS];have b1:=aj X1 (D #[I J 0] 3);refine forget (λ X=>Bk X hb (yM H) 26/\Bk X pb #[I J x,I J y] 23/\Bk X lb (oY H) 85/\Bk X nb #[I J 0] 3/\aZ W X) ⟨H1.q1.below b1,H1.q2.below b1,H1.q3.below b1,au _ _ _ _ nS,H1.t3.trans (b1.mono H1.t3.size)⟩ ?_;clear b1 nS H1 HX;rintro X2 ⟨h1,h2,h3,h4,h5⟩;obtain⟨c1,l1⟩:=h1.cl0;obtain⟨c2,l2⟩:=h2.cl0;obtain⟨c3,l3⟩:=h3.cl0;have c4:=h4.cell 0;have l4:=h4.lt;have HX:=lQ h1 h2 h3 h4 h5;clear h1 h2 h3 h4 h5;refine bJ _ aV aV ?_;repeat(go_big_quiet_step (fail))
 refine wpQuiet_nil (λ v=>?_);go_upto_region 10 with fail;have hdd:¬(1000000:Int)<x*x+y*y:=ar;have akU:¬(9000000:Int)<x*x+y*y:=ar;have akV:decide ((9000000:Int)<x*x+y*y)=false:=decide_eq_false akU;have asm:decide ((1000000:Int)<x*x+y*y)=false:=decide_eq_false hdd;go_upto_region 11 with(go_at_call 184;(refine(K5 _ nb).mono ?_);rintro e X3 ⟨⟨v3,rfl⟩,hb⟩;have hb3:aZ X2 X3:=(aT X2 v).trans (hb.mono (ke X2 v));clear c1 l1 c2 l2 c3 l3 c4 l4;have h3:=HX.q3.below hb3;have h4:=HX.q4.below hb3;have h5:=HX.t4.trans (hb3.mono HX.t4.size);have H3:=fH h3 h4 h5;clear h3 h4 h5 hb hb3);go_upto_region 12 with(go_at_call 184;(try rw[akV]);(refine(K5 _ nb).mono ?_);rintro e X4 ⟨⟨v4,rfl⟩,hb⟩;have h3:=H3.q1.below hb;have h4:=H3.q2.below hb;obtain⟨c3,l3⟩:=h3.cl0;have c4:=h4.cell 0;have l4:=h4.lt;have H4:=aG (H3.t2.trans (hb.mono H3.t2.size));clear h3 h4 hb);go_wp2_with fail;refine wp_loop_rounds 1 ?_;rw[rounds_succ];go_wp2_with fail;go_ret;exact⟨rfl,H4.o⟩
end
section
open Go.RowKit Go.Shelf
attribute [local go_sem] aQ aC bW Iw
section
variable{P:Program}{w:agb}{ops:Array Oper}{rest:List Oper}{o:Oper}{a:Act}{Q:lC}{b:Nat}{l:List (Int×R)}{kt t e:TypeId}
theorem QP(hg:o.guard=U)(mm x v:Operand)(t:TypeId)(hop:o.op=Op.mapUpdate t mm x v)(kt e:TypeId)(ht:P.underlying t=O (.map kt e))(hk:P.underlying kt=O (.int .i64))
 (hm:a.eval mm=.map (O b))(h:eh w b l)(k:Int)(hx:a.eval x=I J k)(hn:gj k l=U)(y:R)(hy:a.eval v=y)
 (hK:∀w',eh w' b (l++[(k,y)])->Only (λ g=>g=b) w w'->wpList P ops Q rest (a.put o.dst undef) w'):wpList P ops Q (o::rest) a w:=by
 refine wpList_plain hg λ K' hK'=>?_;obtain⟨w',hrun,h1,h2⟩:=h.put ht hk k hn y;unfold Oper.wp;simp[execOp,hop,hm,hx,hy,hrun,Result.andThen];exact hK' _ _ (hK w' h1 h2)
end
theorem qQ{X:agb}{b m:Nat}{l:List (Int×R)}{C:Array R}{t:TypeId}(h:Bk X b C t)(hm:eh X m l):b≠m:=λ e=>by subst e;obtain⟨es,c,hm,_⟩:=hm;have q:O (Obj.cells C t (0,0))=O (Obj.map es c):=(show X.heap[b]?=_ from h).symm.trans hm;cases q
abbrev plZ:Array R:=#[I J 0,I J 0,I J 0,I J 0,I J 0,I J 0,I J 0,I J 0,I J 0]
abbrev plC(k i r s x y:Int):Array R:=#[I J k,I J 0,I J i,I J r,I J s,I J x,I J y,I J 0,I J (-1)]
structure Pl(W:agb)(H:Hx)(hb ob nb lb ib kb rb ab mb n k:Nat)(X:agb):Prop where
 fh:fS H X
 fa:Bk X hb (yM H) 26
 fo:∃v xs,Bk X ob #[v] 75/\X.ownsRow W.heap.size 267 9 v n xs
 fn:Bk X nb #[I J 0] 3
 fl:Bk X lb (oY H) 85
 fi:Bk X ib #[I J 0] 3
 fk:Bk X kb #[I J 0] 3
 fr:Bk X rb fT 166
 ft:Bk X ab #[.map (O mb)] 211
 fm:∃l,eh X mb l/\∀j:Int,(k:Int)<j->gj j l=U
 fw:aZ W X
 fb:wS H W.heap.size/\W.heap.size<=ob/\W.heap.size<=mb
section
variable{W:agb}{H:Hx}{hb ob nb lb ib kb rb ab mb n k n' k':Nat}{X X':agb}
theorem Pl.keep(h:Pl W H hb ob nb lb ib kb rb ab mb n k X)(hb':aZ X X'):Pl W H hb ob nb lb ib kb rb ab mb n k X':=by obtain⟨l,h1,h2⟩:=h.fm;obtain⟨v,xs,h3,h4⟩:=h.fo;exact⟨h.fh.keep hb',h.fa.below hb',⟨v,xs,h3.below hb',ee (S:=λ _=>False) h4 (aw hb') (λ _ _ h=>h)⟩,h.fn.below hb',h.fl.below hb',h.fi.below hb',h.fk.below hb',h.fr.below hb',h.ft.below hb',⟨l,h1.below hb',h2⟩,h.fw.trans (hb'.mono h.fw.size),h.fb⟩
def Rs(W:agb)(ob mb:Nat)(v:R)(g:Nat):Prop:=g=ob\/g=mb\/v.ownBlock=O g
theorem Pl.apart(h:Pl W H hb ob nb lb ib kb rb ab mb n k X){v:R}{xs:List R}(hv:X.ownsRow W.heap.size 267 9 v n xs){g:Nat}{C:Array R}{t:TypeId}(hg:Bk X g C t)(n1:t≠75)(n2:t≠267):¬Rs W ob mb v g:=by
 obtain⟨v',xs',h3,h4⟩:=h.fo;obtain⟨l,hm,_⟩:=h.fm;rintro(rfl|rfl|e)
 · exact n1 (fj hg h3)
 · exact qQ hg hm rfl
 · obtain⟨C',Jz⟩:=js hv _ e
   exact n2 (fj hg Jz)
theorem Pl.upd(h:Pl W H hb ob nb lb ib kb rb ab mb n k X){v:R}{xs:List R}(hv:X.ownsRow W.heap.size 267 9 v n xs)(ho:Only (Rs W ob mb v) X X')(h1:∃v xs,Bk X' ob #[v] 75/\X'.ownsRow W.heap.size 267 9 v n' xs)(h2:∃l,eh X' mb l/\∀j:Int,(k':Int)<j->gj j l=U):Pl W H hb ob nb lb ib kb rb ab mb n' k' X':=by
 have nA:∀g,Rs W ob mb v g->W.heap.size<=g:=λ g hg=>by
  obtain⟨_,b1,b2⟩:=h.fb;rcases hg with rfl|rfl|e
  · exact b1
  · exact b2
  · exact(jd hv e).1
 exact⟨h.fh.only h.fb.1 ho nA,h.fa.only ho (h.apart hv h.fa cj cj),h1,h.fn.only ho (h.apart hv h.fn cj cj),h.fl.only ho (h.apart hv h.fl cj cj),h.fi.only ho (h.apart hv h.fi cj cj),h.fk.only ho (h.apart hv h.fk cj cj),h.fr.only ho (h.apart hv h.fr cj cj),h.ft.only ho (h.apart hv h.ft cj cj),h2,h.fw.trans (ho.aK nA h.fw.size),h.fb⟩
end
theorem Eu{j s:Int}{v:R}(hn:j≠s):∀l:List (Int×R),gj j l=U->gj j (l++[(s,v)])=U
 |[],_=>by simp[gj,hn]
 |(a,b)::l,h=>by
  simp only[gj,eU] at h⊢;split at h
  · cases h
  · rename_i hab
    rw[if_neg hab];exact Eu hn l h
theorem ags(W Y:agb)(H:Hx)(hb ob nb lb ib kb rb ab mb k:Nat)(s x:Int)(hs:nG k s x)(h:Pl W H hb ob nb lb ib kb rb ab mb k k Y):
 Calls prog 141 #[I J s,I J x,M (O ⟨nb,0,U⟩),M (O ⟨ib,0,U⟩),M (O ⟨kb,0,U⟩),M (O ⟨rb,0,U⟩),M (O ⟨hb,0,U⟩),M (O ⟨ob,0,U⟩),M (O ⟨ab,0,U⟩)] Y λ r Y'=>(∃v,r=.returned v)/\Pl W H hb ob nb lb ib kb rb ab mb (k+1) (k+1) Y'/\Y.heap.size<=Y'.heap.size/\∀g C,Bk Y g C 166->Bk Y' g C 166:=by
 have hx:0<=x/\x<=30:=by rcases hs with⟨_,_,rfl⟩|⟨_,_,rfl⟩|⟨_,_,rfl⟩<;>decide
 have hsk:s=(k:Int)+1:=by rcases hs with⟨rfl,rfl,_⟩|⟨rfl,rfl,_⟩|⟨rfl,rfl,_⟩<;>rfl
 have hk3:k<=2:=by rcases hs with⟨rfl,_⟩|⟨rfl,_⟩|⟨rfl,_⟩<;>decide
 have cn:=h.fn.cell 0;have ln:=h.fn.lt;have ci:=h.fi.cell 0;have li:=h.fi.lt;have ck:=h.fk.cell 0;have lk:=h.fk.lt;obtain⟨cr,lr⟩:=h.fr.cl0;obtain⟨ca,la⟩:=h.fa.cl0;have HV:Hid (∀Z,aZ Y Z->Calls prog 142 #[.agg (yM H),I J 0,.agg #[I J x,I J 5]] Z λ e W'=>e=.returned (I J 0)/\aZ Z W'):=aG λ Z hZ=>Vw Z H x 5 hx cj (h.fh.keep hZ);have HH:=fH h hsk hx;clear h hsk hx hs;go_enter func141,ntmps141;go_upto_region 0 with fail;go_cut [11] (λ p X'=>∃b,p=M (O ⟨b,0,U⟩)/\Bk X' b (plC 0 0 0 s x 5) 267/\aZ Y X')
 case first =>
  have HO:Hid (aZ Y Y.drew):=aG ((aA _ Y).drew);refine Ah (S:=λ w'=>∃u,w'=ext Y u) [([0,1,2,3,4,5,6,7,8,9,10,11,12],[])] 13 [([14],[15])] 15 [([],[13]),([14],[])] 16 aV (by decide+kernel) (iJ HO.o) ?_;(refine bT (λ K9 h9=>?_);simp only[aH,aU,aW,aa,ae];(repeat(go_big_quiet_step (fail)));refine wpQuiet_nil (h9 _ ?_);clear h9 K9)
  refine bU (dF ⟨?_,?_⟩)
  · refine jM (λ K9 h9=>?_)
    simp only[aW,aa,ae];go_wp2_with (go_at_call 142;(refine(HV.o _ HO.o).mono ?_);rintro e X1 ⟨rfl,hb⟩;replace HO:=aG (HO.o.trans (hb.mono HO.o.size));clear hb);refine h9 _ _ (iJ HO.o) ?_;clear h9 K9;(refine bT (λ K9 h9=>?_);simp only[aH,aU,aW,aa,ae];(repeat(go_big_quiet_step (fail)));refine wpQuiet_nil (h9 _ ?_);clear h9 K9)
    (refine cM (λ K9 h9=>?_);simp only[aW,aa,ae])
    go_wp2_with fail;refine h9 _ _ (iJ (HO.o.alloc HO.o.size _)) ?_;clear h9 K9;refine bU (dF ?_);simp only[aW,aa,ae];go_wp2_with fail;go_meet;exact⟨X1.heap.size,rfl,Bk.new _ _ _,HO.o.alloc HO.o.size _⟩
  · refine jM (λ K9 h9=>?_)
    simp only[aW,aa,ae];go_wp2_with fail;have W6:aZ Y (Y.alloc (D plZ 267)).drew:=dE;replace HO:=aG W6;obtain⟨pb,oU⟩:∃x,Y.heap.size=x:=⟨_,rfl⟩;have hB1:Bk (Y.alloc (D plZ 267)).drew pb plZ 267:=(au _ _ _ _ oU).drew;have HB:=aG hB1;rw[oU];refine h9 _ _ (iJ HO.o) ?_;clear h9 K9 W6 hB1;refine bT (λ K9 h9=>?_);simp only[aU];refine wpQuiet_nil (h9 _ ?_);clear h9 K9;refine cM (λ K9 h9=>?_);simp only[aW,aa,ae];go_wp2_with (go_at_call 142;(refine(HV.o _ HO.o).mono ?_);rintro e X1 ⟨rfl,hb⟩;replace HB:=aG (HB.o.below hb);replace HO:=aG (HO.o.trans (hb.mono HO.o.size));clear hb);refine h9 _ _ (iJ HO.o) ?_;clear h9 K9;refine bU ?_;(refine bT (λ K9 h9=>?_);simp only[aH,aU,aW,aa,ae];(repeat(go_big_quiet_step (fail)));refine wpQuiet_nil (h9 _ ?_);clear h9 K9)
    refine bU (dF ?_);simp only[aW,aa,ae];have cb:=HB.o.cell;have fb:=HB.o.free;have lb9:=HB.o.lt;go_wp2_with fail;go_meet;have hw:=iA (b:=pb) (plC 0 0 0 s x 5).toList 0 X1;exact⟨pb,rfl,jF HB.o (plC 0 0 0 s x 5) rfl,HO.o.trans (hw.aK (λ g hg=>ar) HO.o.size)⟩
 case rest=>
  obtain⟨X,Ae⟩:∃X,X=wc:=⟨_,rfl⟩;rw[<-Ae] at hcut⊢;clear Ae cn ln ci li ck lk cr lr ca la HV;obtain⟨pb,rfl,oU,hbc⟩:=hcut;have h1:=HH.q1.keep hbc;obtain⟨cr,lr⟩:=h1.fr.cl0;have HX:=fH h1 oU hbc;clear h1 oU hbc;go_upto_region 8 with(go_at_call 130;(refine(Es _ s).mono ?_);rintro e X1 ⟨rfl,hb⟩;have H1:=fH (HX.q1.keep hb) (HX.q2.below hb) (HX.t2.trans (hb.mono HX.t2.size));clear hb);clear cr lr HX;have h1:=H1.q1;obtain⟨v,xs,tr,EI⟩:=h1.fo;obtain⟨l,tu,hf1⟩:=h1.fm;obtain⟨A,c,rfl,hc1,hc2⟩:=fM EI;have ct:=h1.ft.cell 0;have lt:=h1.ft.lt;have co:=tr.cell 0;have lo:=tr.lt;have npm:pb≠mb:=qQ H1.q2 tu;have nom:ob≠mb:=qQ tr tu;have HR:=iM tr EI tu hf1;clear h1 tr EI tu hf1 hc1 hc2;go_upto_region 9 with(refine QP rfl _ _ _ _ rfl 3 3 tF aJ rfl HR.q3 s rfl (HR.t3 s (by have :=HH.q2;omega)) (I J k) rfl ?_;intro X2 tH IL;have HM:=dt tH IL;clear tH IL)
  have agt:∀g,(G A k c).ownBlock=O g->¬g=mb:=λ g hg e=>by obtain⟨C,hC⟩:=js HR.q2 g hg;exact qQ hC HR.q3 e
  have hv2:=ee HR.q2 HM.t1 agt;have tI:=HR.q1.only HM.t1 nom;have hp2:=H1.q2.only HM.t1 npm;clear ct lt co lo;have co:=tI.cell 0;have lo:=tI.lt;obtain⟨cp,lp⟩:=hp2.cl0;have hz2:W.heap.size<=X2.heap.size:=bm H1.q1.fw.size HM.t1.size;have HN:=fH hv2 tI hp2;clear hv2 tI hp2;obtain⟨ir,zr,i1,i2,i3,i4,i5⟩:=kU (P:=prog) (e:=267) (size:=9) (bytes:=72) (c:=9) aV;have aad:=lQ i1 i2 i3 i4 i5;clear i1 i2 i3 i4 i5
  go_wp2_with (first
   |(refine iz rfl 75 267 _ rfl (plC 0 0 0 s x 5) rfl vt aV bY bY aV ?_)
   |(refine iG (v:=G A k c) rfl _ _ _ rfl W.heap.size 267 ir zr 9 72 vt aad.q1 aad.q2 aad.q3 aad.q4 aad.t4 cj k xs rfl (ee (S:=λ _=>False) HN.q1 (aw (aj _ _)) (λ _ _ h=>h)) (O ⟨X2.heap.size,0,U⟩) 1 1 (plC 0 0 0 s x 5).toList rfl (by rfl) (by have :=gL (Bk.new X2 (plC 0 0 0 s x 5) 267) 1;simpa using this) (by intro u hu;simp at hu;rcases hu with rfl|rfl|rfl|rfl|rfl|rfl|rfl|rfl|rfl<;>rfl) (by unfold maxLen;omega) ar gW (k+1) (xs++(plC 0 0 0 s x 5).toList) rfl rfl ?_;intro A6 c6 X3 hown mN hgr _;have HA:=fH hown mN hgr;clear co lo;have uD:Bk X3 ob #[G A k c] 75:=(Only.grown (Only.refl (λ g=>(G A k c).ownBlock=O g) _) hgr (λ g hg=>.inl hg)) |> λ hO=>(HN.q2.alloc _).only hO (λ e=>(by obtain⟨C,hC⟩:=js HN.q1 ob e;exact absurd (fj HN.q2 hC) cj));have co:=uD.cell 0;have lo:=uD.lt;have fo:=uD.free 0;have HO9:=aG uD;clear hown mN hgr uD))
  go_end0;have DM:Only (Rs W ob mb (G A k c)) X1 X2:=HM.t1.mono λ g hg=>.inr (.inl hg);have Lj:Only (Rs W ob mb (G A k c)) X1 X3:=((DM.alloc _).grown HA.t2 λ g hg=>.inl (.inr (.inr hg)));have hO5:Only (Rs W ob mb (G A k c)) X1 (X3.setCell ⟨ob,0,U⟩ (G A6 (k+1) c6)):=Lj.aS (p:=⟨ob,0,U⟩) (.inl (.inl rfl)) _;have hO6:Only (λ g=>g=ob) X3 (X3.setCell ⟨ob,0,U⟩ (G A6 (k+1) c6)):=(Only.refl (λ g=>g=ob) X3).aS (p:=⟨ob,0,U⟩) (.inl rfl) _;have oJ:=HO9.o
  have hrow:=ee HA.q1 hO6 (λ g hg e=>by subst e;obtain⟨C,hC⟩:=js HA.q1 _ hg;exact absurd (fj oJ hC) cj)
  have hmap:eh (X3.setCell ⟨ob,0,U⟩ (G A6 (k+1) c6)) mb (l++[(s,I J k)]):=by have h1:=(HM.q1.below (aj X2 (D (plC 0 0 0 s x 5) 267))).only ((Only.refl (λ g=>(G A k c).ownBlock=O g) _).grown HA.t2 λ g hg=>.inl hg) (λ e=>agt _ e rfl);exact h1.only hO6 (λ e=>nom e.symm)
  have sA:=H1.q1.upd (n':=k+1) (k':=k+1) HR.q2 hO5 ⟨_,_,oJ.aS 0 _,hrow⟩ ⟨_,hmap,λ j hj=>?_⟩
  · refine⟨⟨_,rfl⟩,sA,bm H1.t2.size hO5.size,λ g C hg=>(hg.below H1.t2).only hO5 (H1.q1.apart HR.q2 (hg.below H1.t2) cj cj)⟩
  · exact Eu (by have :=HH.q2;omega) _ (HR.t3 j ar)
theorem agu(W:agb)(rb ab ob:Nat)(s x:Int)(hr:Bk W rb fT 166):
 Calls prog 143 #[I J s,I J x,M (O ⟨rb,0,U⟩),M (O ⟨ab,0,U⟩),M (O ⟨ob,0,U⟩)] W λ r W'=>(∃v,r=.returned v)/\aZ W W':=by
 obtain⟨cr,lr⟩:=hr.cl0;clear hr;go_enter func143,ntmps143;go_wp2_with (go_at_call 130;(refine(Es _ s).mono ?_);rintro e X1 ⟨rfl,hb⟩;have H1:=aG hb;clear hb cr lr);go_end0;exact⟨⟨_,rfl⟩,H1.o.alloc H1.o.size _⟩
theorem Vx(W:agb)(H:Hx)(h:fS H W):
 Calls prog 69 #[.agg (yM H)] W λ e W'=>(∃A c,e=.returned (G A 5 c))/\aZ W W':=by
 have C9:∀(fn:Fn)(first cap:Array R)(w:agb),(Instr.makeFunc fn first cap).run prog w=.ok (.func fn first cap) w:=λ _ _ _ _=>rfl;have qf:= @run_makeMap prog;have hl:=h.l;have v0:=hl.2 0 _ rfl;have v1:=hl.2 1 _ rfl;have v2:=hl.2 2 _ rfl;have v3:=hl.2 3 _ rfl;have v4:=hl.2 4 _ rfl;have v5:=hl.2 5 _ rfl;have v6:=hl.2 6 _ rfl;have v7:=hl.2 7 _ rfl;have vg:=hl.1;have IP:=h.bound;have HH:=aG h;clear h hl;go_enter func69,ntmps69;go_wp2_with fail;refine wp_loop_rounds 2 ?_;rw[rounds_succ];go_upto_region 5 with fail;clear v0 v1 v2 v3 v4 v5 v6 v7 vg;obtain⟨hb,rK⟩:∃x,W.heap.size=x:=⟨_,rfl⟩;obtain⟨ob,oJ⟩:∃x,hb+1=x:=⟨_,rfl⟩;obtain⟨nb,nS⟩:∃x,ob+1=x:=⟨_,rfl⟩;obtain⟨lb,oy⟩:∃x,nb+1=x:=⟨_,rfl⟩;rw[rK,oJ,nS,oy];have b0:aZ W ((((W.alloc (D (yM H) 26)).alloc (D #[G U 0 0] 75)).alloc (D #[I J 0] 3)).alloc (D (oY H) 85)):=dE;have k1:=(((au W hb (yM H) 26 rK).alloc (D #[G U 0 0] 75)).alloc (D #[I J 0] 3)).alloc (D (oY H) 85);have k2:=((au (W.alloc (D (yM H) 26)) ob #[G U 0 0] 75 gW).alloc (D #[I J 0] 3)).alloc (D (oY H) 85);have k3:=(au ((W.alloc (D (yM H) 26)).alloc (D #[G U 0 0] 75)) nb #[I J 0] 3 gW).alloc (D (oY H) 85);have k4:=au (((W.alloc (D (yM H) 26)).alloc (D #[G U 0 0] 75)).alloc (D #[I J 0] 3)) lb (oY H) 85 gW;have nA:W.heap.size<=ob:=ar;refine forget (λ X=>fS H X/\Bk X hb (yM H) 26/\Bk X ob #[G U 0 0] 75/\Bk X nb #[I J 0] 3/\Bk X lb (oY H) 85/\aZ W X) ⟨HH.o.keep b0,k1,k2,k3,k4,b0⟩ ?_;clear b0 k1 k2 k3 k4 rK oJ nS oy HH;rintro X ⟨h1,h2,h3,h4,h5,h6⟩;obtain⟨cl,ll⟩:=h5.cl0;have hbl:=h1.b;have y0:=hbl.2 0 _ rfl;have y1:=hbl.2 1 _ rfl;have y2:=hbl.2 2 _ rfl;have yg:=hbl.1;have HX:=uF h1 h2 h3 h4 h5 h6;clear h1 h2 h3 h4 h5 h6 hbl;go_wp2_with fail;refine wp_loop_rounds 2 ?_;rw[rounds_succ];go_upto_region 8 with fail;clear y0 y1 y2 yg;clear cl ll;obtain⟨ib,hib⟩:∃x,X.heap.size=x:=⟨_,rfl⟩;obtain⟨bb,mN⟩:∃x,ib+1=x:=⟨_,rfl⟩;rw[hib,mN];have b0:aZ X ((X.alloc (D #[I J 0] 3)).alloc (D (QL H) 163)):=dE;have k1:=(au X ib #[I J 0] 3 hib).alloc (D (QL H) 163);have k2:=au (X.alloc (D #[I J 0] 3)) bb (QL H) 163 gW
 have hX:=HX.o;refine forget (λ X=>fS H X/\Bk X hb (yM H) 26/\Bk X ob #[G U 0 0] 75/\Bk X nb #[I J 0] 3/\Bk X lb (oY H) 85/\Bk X ib #[I J 0] 3/\Bk X bb (QL H) 163/\aZ W X) ⟨hX.1.keep b0,hX.2.1.below b0,hX.2.2.1.below b0,hX.2.2.2.1.below b0,hX.2.2.2.2.1.below b0,k1,k2,hX.2.2.2.2.2.trans (b0.mono hX.2.2.2.2.2.size)⟩ ?_;clear b0 k1 k2 hX hib mN HX;clear X;rintro X ⟨h1,h2,h3,h4,h5,h7,h8,h6⟩;obtain⟨cb,lb9⟩:=h8.cl0;have uR:=h1.r;have y0:=uR.2 0 _ rfl;have y1:=uR.2 1 _ rfl;have y2:=uR.2 2 _ rfl;have y3:=uR.2 3 _ rfl;have y4:=uR.2 4 _ rfl;have y5:=uR.2 5 _ rfl;have y6:=uR.2 6 _ rfl;have y7:=uR.2 7 _ rfl;have yg:=uR.1;have HX:=yJ h1 h2 h3 h4 h5 h7 h6;clear h1 h2 h3 h4 h5 h6 h7 h8 uR;go_wp2_with fail;refine wp_loop_rounds 2 ?_;rw[rounds_succ];go_upto_region 12 with fail;clear y0 y1 y2 y3 y4 y5 y6 y7 yg;clear cb lb9 qf;obtain⟨kb,hkb⟩:∃x,X.heap.size=x:=⟨_,rfl⟩;obtain⟨rb,kS⟩:∃x,kb+1=x:=⟨_,rfl⟩;obtain⟨mb,ug⟩:∃x,rb+1=x:=⟨_,rfl⟩;obtain⟨ab,hab⟩:∃x,mb+1=x:=⟨_,rfl⟩;rw[hkb,kS,ug,hab];have b0:aZ X ((((X.alloc (D #[I J 0] 3)).alloc (D fT 166)).alloc (.map #[] 0)).alloc (D #[.map (O mb)] 211)):=dE;have k1:=(((au X kb #[I J 0] 3 hkb).alloc (D fT 166)).alloc (.map #[] 0)).alloc (D #[.map (O mb)] 211);have k2:=((au (X.alloc (D #[I J 0] 3)) rb fT 166 gW).alloc (.map #[] 0)).alloc (D #[.map (O mb)] 211)
 have k3:eh (((X.alloc (D #[I J 0] 3)).alloc (D fT 166)).alloc (.map #[] 0)) mb []:=by have :=eh.new ((X.alloc (D #[I J 0] 3)).alloc (D fT 166));rwa [show((X.alloc (D #[I J 0] 3)).alloc (D fT 166)).heap.size=mb by simp;omega] at this
 have k4:=au (((X.alloc (D #[I J 0] 3)).alloc (D fT 166)).alloc (.map #[] 0)) ab #[.map (O mb)] 211 gW;have hX:=HX.o;have hsz:=hX.2.2.2.2.2.2.size;refine forget (λ X=>Pl W H hb ob nb lb ib kb rb ab mb 0 0 X) ⟨hX.1.keep b0,hX.2.1.below b0,⟨_,[],hX.2.2.1.below b0,uK⟩,hX.2.2.2.1.below b0,hX.2.2.2.2.1.below b0,hX.2.2.2.2.2.1.below b0,k1,k2,k4,⟨[],k3.below (aj _ _),λ _ _=>rfl⟩,hX.2.2.2.2.2.2.trans (b0.mono hsz),IP,nA,ar⟩ ?_;clear b0 k1 k2 k3 k4 hX hsz hkb kS ug hab HX;clear X;intro X hP;obtain⟨cr,lr⟩:=hP.fr.cl0
 have hs1:Calls prog 64 #[.agg fT,.func (.func 141) #[] #[M (O ⟨nb,0,U⟩),M (O ⟨ib,0,U⟩),M (O ⟨kb,0,U⟩),M (O ⟨rb,0,U⟩),M (O ⟨hb,0,U⟩),M (O ⟨ob,0,U⟩),M (O ⟨ab,0,U⟩)]] X λ r W'=>(∃v,r=.returned v)/\Pl W H hb ob nb lb ib kb rb ab mb 3 3 W'/\X.heap.size<=W'.heap.size:=
  yB X 141 _ (λ k X=>Pl W H hb ob nb lb ib kb rb ab mb k k X) (enters_of func141 aV rfl) (λ k X X' h hb=>h.keep hb) (λ k s x Y hs hI hz=>(ags W Y H hb ob nb lb ib kb rb ab mb k s x hs hI).mono λ r Y' ⟨h1,h2,h3,h4⟩=>⟨h1,h2,h3,λ g C _ hg=>h4 g C hg⟩) hP
 have HS:=aG hs1;clear hP hs1;go_upto_region 13 with(go_at_call 64;(with_reducible refine HS.o.mono ?_);rintro r X1 ⟨⟨v,rfl⟩,hP,hz⟩;clear cr lr;obtain⟨cr,lr⟩:=hP.fr.cl0;have HP:=aG hP;clear hP hz)
 have hs2:Calls prog 64 #[.agg fT,.func (.func 143) #[] #[M (O ⟨rb,0,U⟩),M (O ⟨ab,0,U⟩),M (O ⟨ob,0,U⟩)]] X1 λ r W'=>(∃v,r=.returned v)/\Pl W H hb ob nb lb ib kb rb ab mb 3 3 W'/\X1.heap.size<=W'.heap.size:=
  yB X1 143 _ (λ k X=>Pl W H hb ob nb lb ib kb rb ab mb 3 3 X) (enters_of func143 aV rfl) (λ k X X' h hb=>h.keep hb) (λ k s x Y hs hI hz=>(agu Y rb ab ob s x hI.fr).mono λ r Y' ⟨h1,h2⟩=>⟨h1,hI.keep h2,h2.size,λ g C _ hg=>hg.below h2⟩) HP.o
 have Xq:=aG hs2;clear hs2 HS;go_upto_region 14 with(go_at_call 64;(with_reducible refine Xq.o.mono ?_);rintro r X2 ⟨⟨v,rfl⟩,hP,hz⟩;have HQ:=aG hP;clear hP hz cr lr);clear Xq HP;obtain⟨cl,ll⟩:=HQ.o.fl.cl0;go_wp2_with fail;rw[rounds_succ];go_wp2_with fail;rw[rounds_succ];go_wp2_with fail;refine wp_loop_rounds 2 ?_;rw[rounds_succ];have YP:=HQ.o.fh.a;have y0:=YP.2 0 _ rfl;have y1:=YP.2 1 _ rfl;have y2:=YP.2 2 _ rfl;have y3:=YP.2 3 _ rfl;have y4:=YP.2 4 _ rfl;have y5:=YP.2 5 _ rfl;have y6:=YP.2 6 _ rfl;have yg:=YP.1;clear YP;go_upto_region 19 with fail;clear y0 y1 y2 y3 y4 y5 y6 yg;clear cl ll;obtain⟨eb,zh⟩:∃x,X2.heap.size=x:=⟨_,rfl⟩;rw[zh];have b2:=aj X2 (D (qW 2) 171);refine forget (λ X=>Pl W H hb ob nb lb ib kb rb ab mb 3 3 X/\Bk X eb (qW 2) 171) ⟨HQ.o.keep b2,au _ _ _ _ zh⟩ ?_;clear b2 zh HQ;rintro X3 ⟨h1,h2⟩;obtain⟨ce,le9⟩:=h2.cl0;obtain⟨ca,la⟩:=h1.fa.cl0;have cn:=h1.fn.cell 0;have ln:=h1.fn.lt;have HX:=dt h1 h2;clear h1 h2;refine bJ _ aV aV ?_;repeat(go_big_quiet_step (fail))
 refine wpQuiet_nil (λ u=>?_);go_upto_region 21 with(go_at_call 142;(refine(Vw _ H 23 22 cj cj (HX.q1.fh.keep (aT X3 u))).mono ?_);rintro e X4 ⟨rfl,hb⟩;have hb4:aZ X3 X4:=(aT X3 u).trans (hb.mono (ke X3 u));clear ce le9 ca la cn ln;have h1:=HX.q1.keep hb4;have h2:=HX.t1.below hb4;obtain⟨ce,le9⟩:=h2.cl0;have H4:=aG h1;clear h1 h2 hb hb4);go_wp2_with fail;clear ce le9;refine wp_loop_rounds 3 ?_;obtain⟨ir,zr,i1,i2,i3,i4,i5⟩:=kU (P:=prog) (e:=267) (size:=9) (bytes:=72) (c:=9) aV;have aad:=lQ i1 i2 i3 i4 i5;clear i1 i2 i3 i4 i5 HX;rw[rounds_succ];obtain⟨v,xs,tr,EI⟩:=H4.o.fo;obtain⟨A,c,rfl,hc1,hc2⟩:=fM EI;have co:=tr.cell 0;have lo:=tr.lt;have cn:=H4.o.fn.cell 0;have ln:=H4.o.fn.lt;obtain⟨cl,ll⟩:=H4.o.fl.cl0;have Zr:=H4.o.fw.size;have HR:=dt tr EI;clear tr EI hc1 hc2;go_upto_region 24 with fail;go_hide hQ
 go_wp2_with (first
  |(refine iz rfl 75 267 _ rfl #[I J 3,I J 0,I J 1,I J (-1),I J 1,I J 23,I J 22,I J 0,I J (-1)] rfl vt aV bY bY aV ?_)
  |(refine iG (v:=G A 3 c) rfl _ _ _ rfl W.heap.size 267 ir zr 9 72 vt aad.q1 aad.q2 aad.q3 aad.q4 aad.t4 cj 3 xs rfl (ee (S:=λ _=>False) HR.t1 (aw (aj _ _)) (λ _ _ h=>h)) (O ⟨X4.heap.size,0,U⟩) 1 1 (#[I J 3,I J 0,I J 1,I J (-1),I J 1,I J 23,I J 22,I J 0,I J (-1)]:Array R).toList rfl (by rfl) (by have :=gL (Bk.new X4 #[I J 3,I J 0,I J 1,I J (-1),I J 1,I J 23,I J 22,I J 0,I J (-1)] 267) 1;simpa using this) (by intro u hu;simp at hu;rcases hu with rfl|rfl|rfl|rfl|rfl|rfl|rfl|rfl|rfl<;>rfl) (by unfold maxLen;omega) ar gW 4 (xs++(#[I J 3,I J 0,I J 1,I J (-1),I J 1,I J 23,I J 22,I J 0,I J (-1)]:Array R).toList) rfl rfl ?_;intro A6 c6 Y1 hown mN hgr _;have HA:=fH hown mN hgr;clear co lo;have uD:Bk Y1 ob #[G A 3 c] 75:=(HR.q1.alloc _).only (Only.grown (Only.refl (λ g=>(G A 3 c).ownBlock=O g) _) hgr (λ g hg=>.inl hg)) (λ e=>(by obtain⟨C,hC⟩:=js HR.t1 ob e;exact absurd (fj HR.q1 hC) cj));have co:=uD.cell 0;have lo:=uD.lt;have fo:=uD.free 0;have HO9:=aG uD;clear hown mN hgr uD))
 have X59:∃Y,Y1.setCell ⟨ob,0,U⟩ (G A6 4 c6)=Y/\Pl W H hb ob nb lb ib kb rb ab mb 4 3 Y:=by
  have Lj:Only (Rs W ob mb (G A 3 c)) X4 Y1:=(((Only.refl (Rs W ob mb (G A 3 c)) X4).alloc _).grown HA.t2 λ g hg=>.inl (.inr (.inr hg)));have hO5:Only (Rs W ob mb (G A 3 c)) X4 (Y1.setCell ⟨ob,0,U⟩ (G A6 4 c6)):=Lj.aS (p:=⟨ob,0,U⟩) (.inl (.inl rfl)) _;have hO6:Only (λ g=>g=ob) Y1 (Y1.setCell ⟨ob,0,U⟩ (G A6 4 c6)):=(Only.refl (λ g=>g=ob) Y1).aS (p:=⟨ob,0,U⟩) (.inl rfl) _;have oJ:=HO9.o
  have hrow:=ee HA.q1 hO6 (λ g hg e=>by subst e;obtain⟨C,hC⟩:=js HA.q1 _ hg;exact absurd (fj oJ hC) cj)
  obtain⟨l,hm,hf⟩:=H4.o.fm
  have tu:=(hm.below (aj X4 (D #[I J 3,I J 0,I J 1,I J (-1),I J 1,I J 23,I J 22,I J 0,I J (-1)] 267))).only ((Only.refl (λ g=>(G A 3 c).ownBlock=O g) _).grown HA.t2 λ g hg=>.inl hg) (λ e=>by obtain⟨C,hC⟩:=js HR.t1 _ e;exact qQ hC hm rfl)
  exact⟨_,rfl,H4.o.upd HR.t1 hO5 ⟨_,_,oJ.aS 0 _,hrow⟩ ⟨l,tu.only hO6 (λ e=>qQ oJ tu e.symm),hf⟩⟩
 obtain⟨X5,hYY,hP⟩:=X59;rw[hYY];have YQ:=aG hP;clear hYY hP HA HO9 HR co lo fo cn ln cl ll Zr H4;rw[<-hQ];clear hQ;go_wp2_with fail;rw[rounds_succ];obtain⟨v,xs,tr,EI⟩:=YQ.o.fo;obtain⟨A,c,rfl,hc1,hc2⟩:=fM EI;have co:=tr.cell 0;have lo:=tr.lt;have cn:=YQ.o.fn.cell 0;have ln:=YQ.o.fn.lt;obtain⟨cl,ll⟩:=YQ.o.fl.cl0;have Zr:=YQ.o.fw.size;have HR:=dt tr EI;clear tr EI hc1 hc2;go_upto_region 24 with fail;go_hide hQ
 go_wp2_with (first
  |(refine iz rfl 75 267 _ rfl #[I J 3,I J 0,I J 1,I J (-1),I J 2,I J 23,I J 22,I J 0,I J (-1)] rfl vt aV bY bY aV ?_)
  |(refine iG (v:=G A 4 c) rfl _ _ _ rfl W.heap.size 267 ir zr 9 72 vt aad.q1 aad.q2 aad.q3 aad.q4 aad.t4 cj 4 xs rfl (ee (S:=λ _=>False) HR.t1 (aw (aj _ _)) (λ _ _ h=>h)) (O ⟨X5.heap.size,0,U⟩) 1 1 (#[I J 3,I J 0,I J 1,I J (-1),I J 2,I J 23,I J 22,I J 0,I J (-1)]:Array R).toList rfl (by rfl) (by have :=gL (Bk.new X5 #[I J 3,I J 0,I J 1,I J (-1),I J 2,I J 23,I J 22,I J 0,I J (-1)] 267) 1;simpa using this) (by intro u hu;simp at hu;rcases hu with rfl|rfl|rfl|rfl|rfl|rfl|rfl|rfl|rfl<;>rfl) (by unfold maxLen;omega) ar gW 5 (xs++(#[I J 3,I J 0,I J 1,I J (-1),I J 2,I J 23,I J 22,I J 0,I J (-1)]:Array R).toList) rfl rfl ?_;intro A6 c6 Y1 hown mN hgr _;have HA:=fH hown mN hgr;clear co lo;have uD:Bk Y1 ob #[G A 4 c] 75:=(HR.q1.alloc _).only (Only.grown (Only.refl (λ g=>(G A 4 c).ownBlock=O g) _) hgr (λ g hg=>.inl hg)) (λ e=>(by obtain⟨C,hC⟩:=js HR.t1 ob e;exact absurd (fj HR.q1 hC) cj));have co:=uD.cell 0;have lo:=uD.lt;have fo:=uD.free 0;have HO9:=aG uD;clear hown mN hgr uD))
 have X69:∃Y,Y1.setCell ⟨ob,0,U⟩ (G A6 5 c6)=Y/\Pl W H hb ob nb lb ib kb rb ab mb 5 3 Y:=by
  have Lj:Only (Rs W ob mb (G A 4 c)) X5 Y1:=(((Only.refl (Rs W ob mb (G A 4 c)) X5).alloc _).grown HA.t2 λ g hg=>.inl (.inr (.inr hg)));have hO5:Only (Rs W ob mb (G A 4 c)) X5 (Y1.setCell ⟨ob,0,U⟩ (G A6 5 c6)):=Lj.aS (p:=⟨ob,0,U⟩) (.inl (.inl rfl)) _;have hO6:Only (λ g=>g=ob) Y1 (Y1.setCell ⟨ob,0,U⟩ (G A6 5 c6)):=(Only.refl (λ g=>g=ob) Y1).aS (p:=⟨ob,0,U⟩) (.inl rfl) _;have oJ:=HO9.o
  have hrow:=ee HA.q1 hO6 (λ g hg e=>by subst e;obtain⟨C,hC⟩:=js HA.q1 _ hg;exact absurd (fj oJ hC) cj)
  obtain⟨l,hm,hf⟩:=YQ.o.fm
  have tu:=(hm.below (aj X5 (D #[I J 3,I J 0,I J 1,I J (-1),I J 2,I J 23,I J 22,I J 0,I J (-1)] 267))).only ((Only.refl (λ g=>(G A 4 c).ownBlock=O g) _).grown HA.t2 λ g hg=>.inl hg) (λ e=>by obtain⟨C,hC⟩:=js HR.t1 _ e;exact qQ hC hm rfl)
  exact⟨_,rfl,YQ.o.upd HR.t1 hO5 ⟨_,_,oJ.aS 0 _,hrow⟩ ⟨l,tu.only hO6 (λ e=>qQ oJ tu e.symm),hf⟩⟩
 obtain⟨X6,hYY,hP⟩:=X69;rw[hYY];have HX6:=aG hP;clear hYY hP HA HO9 HR co lo fo cn ln cl ll Zr YQ;rw[<-hQ];clear hQ;go_wp2_with fail;rw[rounds_succ];go_wp2_with fail;rw[rounds_succ];go_wp2_with fail;rw[rounds_succ];obtain⟨v,xs,tr,EI⟩:=HX6.o.fo;obtain⟨A,c,rfl,hc1,hc2⟩:=fM EI;have co:=tr.cell 0;have lo:=tr.lt;clear tr EI hc1 hc2;go_wp2_with fail;go_ret;exact⟨⟨A,c,rfl⟩,HX6.o.fw⟩
end
section
open Go.RowKit Go.Shelf
attribute [local go_sem] aQ aC bW
theorem acq(b cap:Nat)(w:agb)(h:gp w b #[I J 0,I J 0]):Calls prog 66 #[G (O ⟨b,0,U⟩) 2 cap] w (jL (.bool true) w):=
 rY b cap [0,0] w 2 rfl (λ i v hv=>h.2 i v (by simpa using hv)) h.1 cj cj
structure IV(W:agb)(H:Hx)(hb cb nb:Nat)(k:Int)(X:agb):Prop where
 fh:fS H X
 fa:Bk X hb (yM H) 26
 fc:Bk X cb (Rp H) 156
 fn:Bk X nb #[I J k] 3
 fw:aZ W X
 fb:wS H W.heap.size/\W.heap.size<=nb
section
variable{W:agb}{H:Hx}{hb cb nb:Nat}{k k':Int}{X X':agb}
theorem IV.keep(h:IV W H hb cb nb k X)(hb':aZ X X'):IV W H hb cb nb k X':=⟨h.fh.keep hb',h.fa.below hb',h.fc.below hb',h.fn.below hb',h.fw.trans (hb'.mono h.fw.size),h.fb⟩
theorem IV.upd(h:IV W H hb cb nb k X)(ho:Only (λ g=>g=nb) X X')(hn:Bk X' nb #[I J k'] 3):IV W H hb cb nb k' X':=by
 have n:∀{g:Nat}{C:Array R}{t:TypeId},Bk X g C t->t≠3->¬(g=nb):=λ{g C t} hg n1 e=>by subst e;exact n1 (fj hg h.fn)
 have nA:∀g,g=nb->W.heap.size<=g:=λ g e=>by have :=h.fb.2;omega
 exact⟨h.fh.only h.fb.1 ho nA,h.fa.only ho (n h.fa cj),h.fc.only ho (n h.fc cj),hn,h.fw.trans (ho.aK nA h.fw.size),h.fb⟩
end
theorem agx(W Y:agb)(H:Hx)(hb cb nb k:Nat)(s x:Int)(hk:k<=2)(h:IV W H hb cb nb k Y):
 Calls prog 65 #[I J s,I J x,M (O ⟨nb,0,U⟩)] Y λ r Y'=>(∃v,r=.returned v)/\IV W H hb cb nb ((k+1:Nat):Int) Y'/\Only (λ g=>g=nb) Y Y'/\Y.heap.size<=Y'.heap.size/\∀g C,Bk Y g C 166->Bk Y' g C 166:=by
 have cn:=h.fn.cell 0;have ln:=h.fn.lt;have fn:=h.fn.free 0;have HH:=aG h;clear h;go_enter func65,ntmps65;go_wp2_with fail;go_end0;have hO:Only (λ g=>g=nb) Y (Y.setCell ⟨nb,0,U⟩ (I J ((k:Int)+1))):=(Only.refl (λ g=>g=nb) Y).aS (p:=⟨nb,0,U⟩) (.inl rfl) _;exact⟨⟨_,rfl⟩,HH.o.upd hO (HH.o.fn.aS 0 _),hO,hO.size,λ g C hg=>hg.only hO (λ e=>by subst e;exact absurd (fj hg HH.o.fn) cj)⟩
theorem YR(W:agb)(H:Hx)(h:fS H W):
 Calls prog 21 #[.agg (yM H)] W λ e W'=>(∃A c,e=.returned (.tuple #[G A 5 c,G U 0 0]))/\aZ W W':=by
 have C9:∀(fn:Fn)(first cap:Array R)(w:agb),(Instr.makeFunc fn first cap).run prog w=.ok (.func fn first cap) w:=λ _ _ _ _=>rfl;have IP:=h.bound;have HH:=aG h;clear h;go_enter func21,ntmps21;go_upto_region 2 with fail;obtain⟨hb,rK⟩:∃x,W.heap.size=x:=⟨_,rfl⟩;obtain⟨cb,hcb⟩:∃x,hb+1=x:=⟨_,rfl⟩;rw[rK,hcb];have b0:aZ W ((W.alloc (D (yM H) 26)).alloc (D (Rp H) 156)):=dE;have k1:=(au W hb (yM H) 26 rK).alloc (D (Rp H) 156);have k2:=au (W.alloc (D (yM H) 26)) cb (Rp H) 156 gW;refine forget (λ X=>fS H X/\Bk X hb (yM H) 26/\Bk X cb (Rp H) 156/\aZ W X) ⟨HH.o.keep b0,k1,k2,b0⟩ ?_;clear b0 k1 k2 rK hcb HH;rintro X ⟨h1,h2,h3,h4⟩;have HX:=iM h1 h2 h3 h4;clear h1 h2 h3 h4;go_upto_region 3 with(go_at_call 59;(refine(aci X H cb HX.q1 HX.q3).mono ?_);rintro e X1 ⟨⟨v,rfl⟩,hb⟩;have h3:=HX.q3.below hb;obtain⟨c3,l3⟩:=h3.cl0;have H1:=iM (HX.q1.keep hb) (HX.q2.below hb) h3 (HX.t3.trans (hb.mono HX.t3.size));clear h3 hb);clear HX;go_upto_region 6 with fail;clear c3 l3;obtain⟨nb,nS⟩:∃x,X1.heap.size=x:=⟨_,rfl⟩;rw[nS];have b1:=aj X1 (D #[I J 0] 3);have hsz:=H1.t3.size;refine forget (λ X=>IV W H hb cb nb 0 X) ⟨H1.q1.keep b1,H1.q2.below b1,H1.q3.below b1,au _ _ _ _ nS,H1.t3.trans (b1.mono hsz),IP,ar⟩ ?_;clear b1 nS hsz H1;intro X2 hB;obtain⟨ca,la⟩:=hB.fa.cl0;have hl:=hB.fh.l;have v0:=hl.2 0 _ rfl;have v1:=hl.2 1 _ rfl;have v2:=hl.2 2 _ rfl;have v3:=hl.2 3 _ rfl;have v4:=hl.2 4 _ rfl;have v5:=hl.2 5 _ rfl;have v6:=hl.2 6 _ rfl;have v7:=hl.2 7 _ rfl;have vg:=hl.1;have HB:=aG hB;clear hB hl;go_wp2_with fail;refine wp_loop_rounds 2 ?_;rw[rounds_succ];go_upto_region 9 with fail;clear v0 v1 v2 v3 v4 v5 v6 v7 vg;clear ca la;obtain⟨lb,oy⟩:∃x,X2.heap.size=x:=⟨_,rfl⟩;rw[oy];have b1:=aj X2 (D (oY H) 85);refine forget (λ X=>IV W H hb cb nb 0 X/\Bk X lb (oY H) 85) ⟨HB.o.keep b1,au _ _ _ _ oy⟩ ?_;clear b1 oy HB;rintro X3 ⟨h1,h2⟩;obtain⟨cl,ll⟩:=h2.cl0;have hbl:=h1.fh.b;have y0:=hbl.2 0 _ rfl;have y1:=hbl.2 1 _ rfl;have y2:=hbl.2 2 _ rfl;have yg:=hbl.1;have HB:=dt h1 h2;clear h1 h2 hbl
 go_wp2_with fail;refine wp_loop_rounds 2 ?_;rw[rounds_succ];go_upto_region 12 with fail;clear y0 y1 y2 yg;clear cl ll;obtain⟨bb,mN⟩:∃x,X3.heap.size=x:=⟨_,rfl⟩;rw[mN];have b1:=aj X3 (D (QL H) 163);refine forget (λ X=>IV W H hb cb nb 0 X/\Bk X lb (oY H) 85/\Bk X bb (QL H) 163) ⟨HB.q1.keep b1,HB.t1.below b1,au _ _ _ _ mN⟩ ?_;clear b1 mN HB;rintro X4 ⟨h1,h2,h3⟩;obtain⟨cb9,lb9⟩:=h3.cl0;have uR:=h1.fh.r;have y0:=uR.2 0 _ rfl;have y1:=uR.2 1 _ rfl;have y2:=uR.2 2 _ rfl;have y3:=uR.2 3 _ rfl;have y4:=uR.2 4 _ rfl;have y5:=uR.2 5 _ rfl;have y6:=uR.2 6 _ rfl;have y7:=uR.2 7 _ rfl;have yg:=uR.1;have HB:=dt h1 h2;clear h1 h2 h3 uR;go_wp2_with fail;refine wp_loop_rounds 2 ?_;rw[rounds_succ];go_upto_region 15 with fail;clear y0 y1 y2 y3 y4 y5 y6 y7 yg;clear cb9 lb9;obtain⟨rb,kS⟩:∃x,X4.heap.size=x:=⟨_,rfl⟩;rw[kS];have b1:=aj X4 (D fT 166);have nl:lb≠nb:=λ e=>by subst e;exact absurd (fj HB.t1 HB.q1.fn) cj
 refine forget (λ X=>IV W H hb cb nb 0 X/\Bk X lb (oY H) 85/\Bk X rb fT 166) ⟨HB.q1.keep b1,HB.t1.below b1,au _ _ _ _ kS⟩ ?_;clear b1 kS HB;rintro X5 ⟨h1,h2,h3⟩;obtain⟨cr,lr⟩:=h3.cl0
 have hs1:Calls prog 64 #[.agg fT,.func (.func 65) #[] #[M (O ⟨nb,0,U⟩)]] X5 λ r W'=>(∃v,r=.returned v)/\(IV W H hb cb nb ((3:Nat):Int) W'/\Bk W' lb (oY H) 85)/\X5.heap.size<=W'.heap.size:=
  yB X5 65 _ (λ k X=>IV W H hb cb nb (k:Int) X/\Bk X lb (oY H) 85) (enters_of func65 aV rfl) (λ k X X' h hb=>⟨h.1.keep hb,h.2.below hb⟩) (λ k s x Y hs hI hz=>(agx W Y H hb cb nb k s x (by rcases hs with⟨rfl,_⟩|⟨rfl,_⟩|⟨rfl,_⟩<;>decide) hI.1).mono λ r Y' ⟨h1,h2,EH,h3,h4⟩=>⟨h1,⟨h2,hI.2.only EH nl⟩,h3,λ g C _ hg=>h4 g C hg⟩) ⟨h1,h2⟩
 have HS:=aG hs1;clear h1 h2 h3 hs1;go_upto_region 16 with(go_at_call 64;(with_reducible refine HS.o.mono ?_);rintro r X6 ⟨⟨v6,rfl⟩,⟨h1,h2⟩,hz⟩;clear cr lr;obtain⟨cl,ll⟩:=h2.cl0;have h1':IV W H hb cb nb 3 X6:=h1;have xY:=h1'.fh.a;have y0:=xY.2 0 _ rfl;have y1:=xY.2 1 _ rfl;have y2:=xY.2 2 _ rfl;have y3:=xY.2 3 _ rfl;have y4:=xY.2 4 _ rfl;have y5:=xY.2 5 _ rfl;have y6:=xY.2 6 _ rfl;have yg:=xY.1;have H6:=dt h1' h2;clear h1 h1' h2 hz xY);clear HS;go_wp2_with fail;rw[rounds_succ];go_wp2_with fail;rw[rounds_succ];go_wp2_with fail;refine wp_loop_rounds 2 ?_;rw[rounds_succ];go_upto_region 21 with fail;clear y0 y1 y2 y3 y4 y5 y6 yg;clear cl ll;obtain⟨eb,zh⟩:∃x,X6.heap.size=x:=⟨_,rfl⟩;rw[zh];have b1:=aj X6 (D (qW 2) 171);refine forget (λ X=>IV W H hb cb nb 3 X/\Bk X eb (qW 2) 171) ⟨H6.q1.keep b1,au _ _ _ _ zh⟩ ?_;clear b1 zh H6;rintro X7 ⟨h1,h2⟩;obtain⟨ce,le9⟩:=h2.cl0;have cn:=h1.fn.cell 0;have ln:=h1.fn.lt;have fn:=h1.fn.free 0;have HB:=aG h1;clear h1 h2;go_upto_region 22 with fail;clear ce le9 cn ln fn;have hO:Only (λ g=>g=nb) X7 (X7.setCell ⟨nb,0,U⟩ (I J 5)):=(Only.refl (λ g=>g=nb) X7).aS (p:=⟨nb,0,U⟩) (.inl rfl) _;refine forget (λ X=>IV W H hb cb nb 5 X) (HB.o.upd hO (HB.o.fn.aS 0 _)) ?_;clear hO HB;intro X8 hB;obtain⟨ca,la⟩:=hB.fa.cl0;have HB:=aG hB;clear hB;go_wp2_with fail;rw[rounds_succ];go_wp2_with fail;rw[rounds_succ];go_upto_region 29 with fail;go_hide hQ
 go_wp2_with (go_at_call 66;(refine(acq X8.heap.size _ _ (.pV (Bk.new X8 _ _))).mono ?_);rintro e X9 ⟨rfl,kY⟩;have hb2:aZ X8 X9:=aq dE kY;clear ca la;have h1:=HB.o.keep hb2;have cn:=h1.fn.cell 0;have ln:=h1.fn.lt;obtain⟨ca,la⟩:=h1.fa.cl0;have hl:=h1.fh.l;have v0:=hl.2 0 _ rfl;have v1:=hl.2 1 _ rfl;have v2:=hl.2 2 _ rfl;have v3:=hl.2 3 _ rfl;have v4:=hl.2 4 _ rfl;have v5:=hl.2 5 _ rfl;have v6:=hl.2 6 _ rfl;have v7:=hl.2 7 _ rfl;have vg:=hl.1;have H9:=aG h1;clear h1 kY hb2 hl);rw[<-hQ];clear hQ;go_upto_region 31 with fail;go_upto_region 25 with fail;refine wp_loop_rounds 2 ?_;rw[rounds_succ];go_upto_region 27 with fail;clear v0 v1 v2 v3 v4 v5 v6 v7 vg;clear cn ln ca la;obtain⟨l2,hl2⟩:∃x,X9.heap.size=x:=⟨_,rfl⟩;rw[hl2];have b1:=aj X9 (D (oY H) 85);refine forget (λ X=>IV W H hb cb nb 5 X/\Bk X l2 (oY H) 85) ⟨H9.o.keep b1,au _ _ _ _ hl2⟩ ?_;clear b1 hl2 H9;rintro XA ⟨h1,h2⟩;obtain⟨cl,ll⟩:=h2.cl0;have HB:=aG h1;clear h1 h2;go_hide hQ
 go_wp2_with (go_at_call 68;(refine(QO XA H cb HB.o.fh).mono ?_);rintro e XB ⟨⟨v,rfl⟩,kY⟩;have h1:=HB.o.keep kY;have cc:=h1.fc.cell 4;have lc:=h1.fc.lt;obtain⟨ca,la⟩:=h1.fa.cl0;have HC:=aG h1;clear h1 kY cl ll);rw[<-hQ];clear hQ HB;go_wp2_with fail;rw[rounds_succ];go_upto_region 35 with fail;go_wp2_with (go_at_call 69;(refine(Vx XB H HC.o.fh).mono ?_);rintro e XC ⟨⟨A,c,rfl⟩,kY⟩;have HE:=aG (HC.o.fw.trans (kY.mono HC.o.fw.size));clear kY cc lc ca la);go_ret2;exact⟨⟨A,c,rfl⟩,HE.o⟩
end
section
open Go.RowKit Go.ChangeAt
attribute [local go_sem] aQ aC bW
theorem aT5{α:Type}{xs:List α}{k:Nat}{x:α}(p:α->Bool)(h:xs[k]?=O x):(xs.take (k+1)).all p=((xs.take k).all p&&p x):=by rw[bu,h,List.all_append];simp
end
end Go.Proofs.YtbcpcneadjcmlaaGreatDoor
