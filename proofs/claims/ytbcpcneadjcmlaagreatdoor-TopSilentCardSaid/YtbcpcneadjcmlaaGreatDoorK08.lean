import Derived.Test.YtbcpcneadjcmlaaGreatDoorK07
namespace Go.Proofs.YtbcpcneadjcmlaaGreatDoor
open Go.Proofs.Tryz
set_option maxRecDepth 100000
set_option maxHeartbeats 16000000
set_option linter.unusedVariables false
set_option linter.unusedSimpArgs false
open Value renaming int→I,slice→G,pointer→M
open IntKind renaming i64→J
open Obj renaming cells→D
open Option renaming some→O,none→U
open Go renaming Value→R,World→agb
section
open Go.RowKit
def rN(z:Zn):Prop:=z.length=10/\∀r∈z,fits r.1/\fits r.2
theorem zm:rN mH:=⟨rfl,by intro r hr;simp only[mH,aR,bH,or_false] at hr;rcases hr with rfl|rfl|rfl|rfl|rfl|rfl|rfl|rfl|rfl|rfl<;>exact⟨by unfold fits;decide,by unfold fits;decide⟩⟩
theorem rN.at{z:Zn}(h:rN z){a:Nat}(ha:a<10):fits (atR z a).1/\fits (atR z a).2:=by
 have hz:=h.1;have e:atR z a=z[a]'ar:=by unfold atR;rw[av,af ar];rfl
 rw[e];exact h.2 _ (cD _)
theorem rN.set{z:Zn}(h:rN z)(a:Nat){r:Rg}(hr:fits r.1/\fits r.2):rN (z.set a r):=
 ⟨by rw[mD];exact h.1,λ x hx=>by
  rcases List.mem_or_eq_of_mem_set hx with h1|rfl
  · exact h.2 x h1
  · exact hr⟩
theorem FK{r:Rg}{op n:Int}(hr:fits r.1/\fits r.2)(hn:0<=n/\n<=1000000000):∀x∈kg r op n,fits x.1/\fits x.2:=by
 obtain⟨⟨h1,h2⟩,h3,h4⟩:=hr;intro x hx;unfold kg at hx;unfold fits;repeat' split at hx
 all_goals simp only[aR,bH,or_false] at hx
 all_goals first
  |(subst hx;dsimp only;omega)
  |(rcases hx with rfl|rfl<;>(dsimp only;omega))
  |exact hx.elim
theorem JU{r:Rg}{op n:Int}:(kg r op n).length<=2:=by
 unfold kg;repeat' split
 all_goals simp
theorem LZ{r:Rg}{op n:Int}:(sx r op n).length<=2:=bm (ei _ _) JU
theorem PH{z:Zn}{a:Nat}{op n:Int}(h:rN z)(ha:a<10)(hn:0<=n/\n<=1000000000):∀x∈mf z a op n,rN x:=by intro x hx;unfold mf at hx;obtain⟨r,hr,rfl⟩:=eQ.1 hx;exact h.set a (FK (h.at ha) hn r (dY.1 hr).1)
theorem B6{L:Nm}{t:Ts}(h:(eI L t).1=0):(eI L t).2.1<10/\0<=(eI L t).2.2/\(eI L t).2.2<=1000000000/\1<=t.2.1/\t.2.1<=6:=by
 unfold eI at *;cases hi:iH t.1 gu with
 |none=>
  rw[hi] at h;have h':(8:Int)=0:=h;omega
 |some a=>
  rw[hi] at h;simp only at h⊢;split at h
  · exact absurd h cj
  · rename_i hc
    rw[if_neg hc];split at h
    · exact absurd h cj
    · rename_i m hm
      split at h
      · exact absurd h cj
      · rename_i hc2
        rw[if_neg hc2]
        have ha:∀{l:List BA0}{k:Nat},iH t.1 l=O k->k<l.length:=by
         intro l;induction l with
         |nil=>intro k h;cases h
         |cons x l ih=>
          intro k h;unfold iH at h;split at h
          · cases h;simp
          · cases hx:iH t.1 l with
            |none=>rw[hx] at h;cases h
            |some q=>rw[hx] at h;cases h;have :=ih hx;simp;omega
        have :=ha hi;have e:gu.length=10:=rfl;refine⟨by simp only;omega,by simp only;omega,by simp only;omega,ar,ar⟩
theorem wu{L:Nm}{l:List Ts}{k:Nat}{t:Ts}(h:l[k]?=O t):gJ L (l.take (k+1))=mI L (gJ L (l.take k)) t:=by unfold gJ;rw[bu,h,List.foldl_append];rfl
theorem zn{L:Nm}:∀{l:List Ts}{k:Nat}{t:Ts},kP L (l.take k)=U->l[k]?=O t->kP L (l.take (k+1))=if(eI L t).1=0 then U else O ((eI L t).1,t.2.2.2.2)
 |[],k,t,_,h=>by simp at h
 |x::l,0,t,_,h=>by
  simp at h;subst h;rfl
 |x::l,k+1,t,hb,h=>by
  have hb':(if(eI L x).1=0 then kP L (l.take k) else O ((eI L x).1,x.2.2.2.2))=U:=hb;show(if(eI L x).1=0 then kP L (l.take (k+1)) else O ((eI L x).1,x.2.2.2.2))=_;by_cases h0:(eI L x).1=0
  · rw[if_pos h0] at hb'⊢
    exact zn hb' (by simpa using h)
  · rw[if_neg h0] at hb'
    cases hb'
theorem zo{L:Nm}:∀{l:List Ts}{k:Nat}{e:Int×Int},kP L (l.take k)=O e->kP L l=O e
 |[],k,e,h=>by simpa using h
 |x::l,0,e,h=>by cases h
 |x::l,k+1,e,h=>by
  have h':(if(eI L x).1=0 then kP L (l.take k) else O ((eI L x).1,x.2.2.2.2))=O e:=h;show(if(eI L x).1=0 then kP L l else O ((eI L x).1,x.2.2.2.2))=O e;by_cases h0:(eI L x).1=0
  · rw[if_pos h0] at h'⊢
    exact zo h'
  · rw[if_neg h0] at h'⊢
    exact h'
theorem JV{L:Nm}{t:Ts}:∀out:List Zn,(mI L out t).length<=2*out.length
 |[]=>by simp[mI]
 |z::out=>by
  have :=JV (L:=L) (t:=t) out;unfold mI at this⊢;rw[gZ,ax];have h1:(mf z (eI L t).2.1 t.2.1 (eI L t).2.2).length<=2:=by unfold mf;rw[bB];exact LZ
  simp only[bD];omega
theorem uQ{L:Nm}{l:List Ts}:∀k,(gJ L (l.take k)).length<=2 ^ k
 |0=>by simp[gJ]
 |k+1=>by
  have ih:=uQ (L:=L) (l:=l) k;cases h:l[k]? with
  |none=>
   have hl:=List.getElem?_eq_none_iff.1 h;rw[cU hl] at ih;rw[cU ar,Nat.pow_succ];omega
  |some t=>
   rw[wu h,Nat.pow_succ];have :=JV (L:=L) (t:=t) (gJ L (l.take k));omega
theorem wx{L:Nm}{l:List Ts}:∀k,kP L (l.take k)=U->∀z∈gJ L (l.take k),rN z
 |0,_=>by
  intro z hz;simp[gJ] at hz;subst hz;exact zm
 |k+1,hb=>by
  cases h:l[k]? with
  |none=>
   have hl:=List.getElem?_eq_none_iff.1 h;rw[cU ar] at hb⊢;have :=wx (L:=L) (l:=l) k;rw[cU hl] at this;exact this hb
  |some t=>
   have hb0:kP L (l.take k)=U:=by
    cases hc:kP L (l.take k) with
    |none=>rfl
    |some e=>
     have e1:l.take k=(l.take (k+1)).take k:=by rw[List.take_take];congr 1;omega
     rw[e1] at hc;rw[zo hc] at hb;cases hb
   have ih:=wx (L:=L) (l:=l) k hb0;rw[zn hb0 h] at hb
   have h0:(eI L t).1=0:=by
    by_cases h0:(eI L t).1=0
    · exact h0
    · rw[if_neg h0] at hb;cases hb
   obtain⟨n1,n2,n3,_⟩:=B6 h0;rw[wu h];intro z hz;unfold mI at hz;obtain⟨z0,hz0,hz1⟩:=dP.1 hz;exact PH (ih z0 hz0) n1 ⟨n2,n3⟩ z hz1
end
section
open Go.RowKit Go.ChangeAt
attribute [local go_sem] aQ aC bW
theorem mO{z:Zn}(h:z.length=10):(sf z).size=20:=by simp[sf,iy,h]
theorem JW(w:agb)(B:Nat){z:Zn}(hz:z.length=10)(hf:∀r∈z,fits r.1/\fits r.2):nM.rd w B (fL z) z:=by
 refine⟨by rw[iy,hz];rfl,hz,λ i hi=>?_⟩;have h:=pd (af hi);refine⟨[I J z[i].1],[I J z[i].2],?_,⟨rfl,(hf _ (cD hi)).1⟩,⟨rfl,(hf _ (cD hi)).2⟩⟩;apply List.ext_getElem?
 intro j;have hn:tRg.n=2:=rfl;rw[hn,gP];by_cases hj:j<2
 · rw[if_pos hj,ju]
   rcases(show j=0\/j=1 from ar) with rfl|rfl
   · exact h.1
   · exact h.2
 · rw[if_neg hj,cX gW]
theorem PI{w:agb}{g B:Nat}{z:Zn}(h:Bk w g (sf z) 90)(hz:rN z)(hB:g<B):cG nM w B (O ⟨g,0,U⟩) [z]:=
 cG.of_block [fL z] h hB rfl (λ i hi=>by
  obtain rfl:i=0:=by simpa using hi
  exact JW w B hz.1 hz.2) (by simp[sf])
theorem G4{z:Zn}(h:z.length=10):(prog.info? 90).map (λ i=>(i.size,i.zero.isSome))=O ((sf z).size,true):=by rw[mO h];kernel_rfl
theorem G5{z:Zn}(h:z.length=10):((prog.info? 90).bind (·.zero)).map (·.cells.size)=O (sf z).size:=by rw[mO h];kernel_rfl
theorem zq{z:Zn}{k:Nat}(h:k<z.length):(sf z)[k*2]?=O (I J (atR z k).1)/\(sf z)[k*2+1]?=O (I J (atR z k).2):=by have :=pd (Nz h);simpa [sf] using this
theorem Xi{w:agb}{B:Nat}{A:dB}{zs:List Zn}(h:cG nM w B A zs){k:Nat}(hk:k<zs.length):
 ∃b off z,A=O ⟨b,off,U⟩/\b<B/\Hid (zs[k]?=O z)/\z∈zs/\Hid (∀j u,(sf z)[j]?=O u->w.cell? ⟨b,off+k*20+j,U⟩=O u):=by
 obtain⟨b,off,z,cs,hA,hb,_,hx,hz,hr,hc⟩:=h.pick hk;obtain⟨rfl,_,_⟩:=mG hr;exact⟨b,off,z,hA,hb,hx,hz,λ j u hu=>hc j u (by simpa [sf] using hu)⟩
theorem Xj{z:Zn}{k:Nat}(hk:k<z.length)(r:Rg):((sf z).setIfInBounds (k*2) (I J r.1)).setIfInBounds (k*2+1) (I J r.2)=sf (z.set k r):=by
 have hl:(sf z).size=z.length*2:=by simp[sf,iy]
 have hl2:(sf (z.set k r)).size=z.length*2:=by simp[sf,iy]
 have hl3:((sf z).setIfInBounds (k*2) (I J r.1)).size=z.length*2:=by rw[Array.size_setIfInBounds,hl]
 apply jt
 intro i;rw[iv,iv,hl3,hl];by_cases Jg:i<z.length*2
 · have hi:i / 2<z.length:=ar
   have e1:=zq (z:=z) hi;have e2:=zq (z:=z.set k r) (k:=i / 2) (by simpa using hi)
   have aaX:atR (z.set k r) (i / 2)=if i / 2=k then r else atR z (i / 2):=by
    unfold atR;rw[av,av,iV];by_cases hc:i / 2=k
    · rw[if_pos hc.symm,if_pos hc,if_pos ar];rfl
    · rw[if_neg (λ h=>hc h.symm),if_neg hc]
   rw[aaX] at e2;rcases(show i=i / 2*2\/i=i / 2*2+1 from ar) with e9|e9
   · have q1:=e1.1
     have q2:=e2.1;rw[<-e9] at q1 q2;rw[q2,if_neg ar];by_cases hc:i / 2=k
     · rw[if_pos ar,if_pos ar,if_pos hc]
     · rw[if_neg ar,if_neg hc,q1]
   · have q1:=e1.2
     have q2:=e2.2;rw[<-e9] at q1 q2;rw[q2];by_cases hc:i / 2=k
     · rw[if_pos ar,if_pos ar,if_pos hc]
     · rw[if_neg ar,if_neg ar,if_neg hc,q1]
 · rw[cI ar,cI (show(sf (z.set k r)).size<=i from ar),if_neg ar,if_neg ar]
theorem JX{w:agb}{b b':Nat}{C C':Array R}{t t':TypeId}(h:Bk w b C t)(h':Bk w b' C' t')(hne:t≠t'):b≠b':=by
 rintro rfl;have h3:w.heap[b]?=O (D C t):=h;have h4:w.heap[b]?=O (D C' t'):=h';cases h3.symm.trans h4
 exact hne rfl
theorem JY{w:agb}{base B:Nat}{t:TypeId}{v:R}{qs:List Zn}{b:Nat}{C:Array R}(h:cH nM 90 w base B v qs)(hb:Bk w b C t)(hne:t≠90):O b≠v.ownBlock:=by
 obtain⟨css,_,_,h⟩:=h;rcases h.2 with⟨rfl,_⟩|⟨g,cap,cur,rfl,_,h2,_⟩
 · simp[Value.ownBlock]
 · simp only[Value.ownBlock,ne_eq,cQ]
   rintro rfl;have h3:w.heap[b]?=O (D C t):=hb;cases h2.symm.trans h3
   exact hne rfl
theorem NZ:∀(w:agb)(B:Nat)(cs:List R)(x:Zn),nM.rd w B cs x->∀u∈cs,u.oneCell'=true:=λ w B cs x h u hu=>by obtain⟨rfl,_,_⟩:=mG h;have :=ko x;rw[Array.all_eq_true] at this;obtain⟨i,hi,rfl⟩:=bo.1 hu;have h9:=this i (by simpa using hi);rw[List.getElem_toArray] at h9;exact h9
theorem Xk(A:dB)(n c:Nat):(G A n c).ownBlock=A.map (·.block):=by cases A<;>rfl
theorem aeg(w:agb):(zeroValue 283).run prog w=.ok (G U 0 0) w:=aV
def aaY(w:agb)(L:Nm)(ts:List Ts)(e:Ending)(w':agb):Prop:=
 aZ w w'/\match kP L ts with
  |some (er,fR)=>e=.panicked [{v:=.iface 99 (.agg #[I J er,I J fR]),recovered:=false}]
  |none=>∃A c,e=.returned (G A (gJ L ts).length c)/\(gJ L ts).length<=c/\c<=maxLen/\ic nM w' A (gJ L ts)
theorem PJ(sb:Nat)(L:Nm)(A:dB)(ts:List Ts)(cap:Nat)(w:agb)(B:Nat)(h:cG Fs w B A ts)(hB:B<=w.heap.size)(hS:nQ w sb L)(h1:L.1.length<=1000000)(h2:L.2.length<=1000000)(hl:ts.length<=8):
 Calls prog 78 #[M (O ⟨sb,0,U⟩),G A ts.length cap] w (aaY w L ts):=by
 have HH:=dt h hS;clear h hS;go_enter func78,ntmps78
 go_upto_region 2 with(first
  |(go_at_call 23;refine(Ak _).mono ?_;rintro e w1 ⟨rfl,hb⟩;obtain⟨u,rfl⟩:=dV hb;clear hb)
  |(refine iz rfl _ 90 _ rfl (sf mH) rfl vq (G4 rfl) cj cj (G5 rfl) ?_))
 refine forget (λ X=>aZ w X/\ic nM X (O ⟨(ext w u).heap.size,0,U⟩) [mH]) ⟨dE,PI (Bk.new _ _ _) zm bY⟩ ?_;generalize(ext w u).heap.size=g0 at *;rintro W ⟨hw,hE0⟩;have HW:=dt hw hE0;have hws:=hw.size;clear hw hE0;go_wp2_with fail;go_loopw [5,7,8,9,10,12,14,19] (λ o _ _ _ _ _ _ i wr=>∃(k:Nat) (A5:dB) (c5:Nat),k<=ts.length/\i=I J k/\kP L (ts.take k)=U/\o=G A5 (gJ L (ts.take k)).length c5/\ic nM wr A5 (gJ L (ts.take k))/\(gJ L (ts.take k)).length<=c5/\c5<=maxLen/\aZ w wr) (λ _ _ _ _ _ _ _ i _=>ts.length - (intOf i).toNat)
 case atStart=>exact⟨0,_,1,ar,rfl,rfl,rfl,HW.t1,ah _,by simp[maxLen],HW.q1⟩
 case round=>
  obtain⟨k,A5,c5,hk,rfl,mP,rfl,hE,hc5,hm5,hw⟩:=hrel;have hwr:=hw.size;by_cases hlt:k<ts.length
  · obtain⟨b,off,nm,op,nn,n,fR,rfl,hb,Hk,g0',g1,g2,g3,g4,gnm,gnn,f1,f2,f3⟩:=NH (HH.q1.keep (hw.mono hB) (ah _)) hlt
    have kq:(k:Int)<(ts.length:Int):=ar;have bw:b<wr.heap.size:=ar;have IJ:=zn mP Hk.o;have Xl:=wu (L:=L) Hk.o;by_cases h0:(eI L (nm,op,nn,n,fR)).1=0
    · obtain⟨n1,n2,n3,n4,n5⟩:=B6 h0
      obtain⟨a,ha⟩:∃a,(eI L (nm,op,nn,n,fR)).2.1=a:=⟨_,rfl⟩;obtain⟨m,hm⟩:∃m,(eI L (nm,op,nn,n,fR)).2.2=m:=⟨_,rfl⟩;have hne:G2 L (nm,op,nn,n,fR)=.returned (.tuple #[I J a,I J m]):=by unfold G2;rw[if_pos h0,ha,hm]
      rw[if_pos h0] at IJ;have S5:=wx k mP;have hlen:(gJ L (ts.take k)).length<=256:=bm (uQ k) (bm (Nat.pow_le_pow_right cj (show k<=8 from ar)) cj);have Zu:(gJ L (ts.take (k+1))).length<=512:=bm (uQ (k+1)) (bm (Nat.pow_le_pow_right cj (show k+1<=9 from ar)) cj)
      have FL:gJ L (ts.take (k+1))=(gJ L (ts.take k)).flatMap λ z=>mf z a op m:=by rw[Xl];unfold mI;rw[ha,hm]
      obtain⟨zs,hzs⟩:∃z,gJ L (ts.take k)=z:=⟨_,rfl⟩;rw[ha] at n1;rw[hm] at n2 n3;rw[hzs] at hE hc5 S5 hlen FL⊢;have HO:=yJ hw hne hE S5 FL IJ Zu;clear hw hne hE IJ Xl mP h0 ha hm S5 FL Zu hzs;go_upto_region 6 with(go_at_call 156;refine(Dc nm op nn n fR sb L _ ((HH.t1.below (HO.q1)).below (aj _ _)) h1 h2).mono ?_;rintro e w2 ⟨he,hb2⟩;rw[HO.q2] at he;subst he;have JZ:=aG hb2;clear hb2);have hb3:aZ wr w2:=(aj wr _).trans (JZ.o.mono bY);refine forget (λ Y=>aZ w Y/\ic nM Y A5 zs/\Bk Y wr.heap.size #[.string nm,I J op,.string nn,I J n,I J fR] 109) ⟨aq HO.q1 hb3,HO.q3.keep hb3 hb3.size,(Bk.new _ _ _).below JZ.o⟩ ?_;clear hb3 JZ g0' g1 g2 g3 g4 bw;generalize wr.heap.size=tv at *;rintro Y0 ⟨hw,hE,bt⟩;obtain⟨ct,lt⟩:=bt.cl0;have hwy:=hw.size;have HY:=fH hw hE bt;clear hw hE bt;go_wp2_with fail;go_loopw [10,12,14,31] (λ v _ _ i wr=>∃j:Nat,j<=zs.length/\i=I J j/\cH nM 90 wr Y0.heap.size 0 v ((zs.take j).flatMap λ z=>mf z a op m)/\aZ Y0 wr) (λ _ _ _ i _=>zs.length - (intOf i).toNat)
      case atStart=>exact⟨0,ar,rfl,cH.nil,aA _ _⟩
      case round=>
       obtain⟨j,hj,rfl,hown,ml⟩:=hrel;obtain⟨A7,c7,rfl,EJ,EX⟩:=hown.form;have aaV:c7<=9223372036854775807:=by unfold maxLen at EX;omega
       have Zt:=ml.size;have cq:=(HY.t2.below ml).cell;have lq:=(HY.t2.below ml).lt;by_cases Lm:j<zs.length
       · obtain⟨b9,Xe,z,rfl,kY,Hz,V7,FM⟩:=Xi (HY.q2.keep ml ml.size) Lm
         have hgz:=HO.q4 z V7;have uo:=hgz.1;obtain⟨fz1,fz2⟩:=hgz.at n1;have rE:(j:Int)<(zs.length:Int):=ar;have JR:Hid ((zs.take (j+1)).flatMap (λ z=>mf z a op m)=(zs.take j).flatMap (λ z=>mf z a op m)++mf z a op m):=aG (by rw[bu,Hz.o,eJ];simp)
         have hql:((zs.take j).flatMap λ z=>mf z a op m).length<=512:=by
          refine bm ?_ HO.t6;rw[HO.q5];conv=>rhs;rw[<-ia j zs]
          rw[eJ,ax];omega
         obtain⟨qz,hqz⟩:∃q,(zs.take j).flatMap (λ z=>mf z a op m)=q:=⟨_,rfl⟩;rw[hqz] at hown EJ hql JR⊢;clear hqz;have HW:=dt hown ml;have Ri:=hown.lt;clear hown ml
         go_upto_region 10 with(first
          |(refine dM (o:=⟨O 34,_,_,_,_,_⟩) rfl _ _ rfl b9 (Xe+j*20) rfl (sf z) _ (λ q u hu=>FM.o q u hu) iW rfl (by rw[mO uo];kernel_rfl) ?_)
          |(refine fD (o:=⟨U,.store 90 _ _,_,_,_,_⟩) rfl _ _ _ rfl (sf z) rfl rfl (by rw[mO uo];kernel_rfl) (by rw[mO uo];rfl) (ko z) ?_))
         simp only[Act.put];refine forget (λ X=>Bk X wr.heap.size (sf z) 90/\cH nM 90 X Y0.heap.size 0 (G A7 qz.length c7) qz/\aZ Y0 X) ⟨Bk.new _ _ _,HW.q1.below (aj _ _) ar,HW.t1.alloc Zt _⟩ ?_;have hnz:∀g,(G A7 qz.length c7).ownBlock=O g->g≠wr.heap.size:=λ g hg=>by have :=(Ri g hg).2;omega
         have hzb:Y0.heap.size<=wr.heap.size:=Zt;clear HW Ri cq lq;generalize wr.heap.size=zb at *;rintro W3 ⟨bz,hown,ml⟩;have hz3:=ml.size;have cq:=(HY.t2.below ml).cell;have lq:=(HY.t2.below ml).lt;have cz1:W3.cell? ⟨zb,a*2,U⟩=O (I J (atR z a).1):=(bz.cell _).trans (zq ar).1;have cz2:W3.cell? ⟨zb,a*2+1,U⟩=O (I J (atR z a).2):=(bz.cell _).trans (zq ar).2;have lz:=bz.lt;have Dd:(a:Int)<10:=ar;have H3:=fH bz hown ml;clear bz hown ml;refine sH W3 [([0,1,2,3,5,6,9],[4,7,8])] (aA _ _) aV aV (λ u=>?_);refine bT (λ K9 h9=>?_);simp only[aH,aU,aW,aa,ae];repeat(go_big_quiet_step (fail))
         refine wpQuiet_nil (h9 _ ?_);clear h9 K9;refine cM (λ K9 h9=>?_);simp only[aW,aa,ae];go_wp2_with (go_at_call 157;refine(LY _ _ m _ fz1 fz2 ⟨n2,n3⟩).mono ?_;rintro e w9 ⟨mb,rfl,⟨l,hI,hop⟩,mN⟩;obtain⟨gr,hfi,hgr⟩:=hop op n4 n5;have HI:=fH hI hfi hgr;clear hI hop hfi hgr;obtain⟨u,rfl⟩:=gI mN;clear mN);refine h9 _ _ GQ ?_;clear h9 K9;refine cM (λ K9 h9=>?_);simp only[aW,aa,ae];go_wp2_with (at_lookup;refine dQ rfl _ _ _ rfl 3 283 o8 aJ (G U 0 0) (aeg _) rfl HI.q1 op rfl ?_;rw[HI.q2,dD]);refine h9 _ _ GQ ?_;clear h9 K9;refine cM (λ K9 h9=>?_);simp only[aW,aa,ae];go_wp2_with fail;refine h9 _ _ GQ ?_;clear h9 K9;refine bU (dF ?_);have mW:=JU (r:=atR z a) (op:=op) (n:=m);have hcf:=FK (op:=op) ⟨fz1,fz2⟩ ⟨n2,n3⟩;have S6:mf z a op m=((kg (atR z a) op m).filter λ r=>decide (r.1<=r.2)).map λ r=>z.set a r:=rfl;have Hgr:=aG HI.t2;change Hid (Bk (ext W3 _) gr (fL (kg (atR z a) op m)).toArray 88) at Hgr;obtain⟨cs,hcs⟩:∃c,kg (atR z a) op m=c:=⟨_,rfl⟩;rw[hcs] at mW hcf S6 Hgr;have aei:kg ((atR z a).1,(atR z a).2) op m=cs:=hcs;rw[aei];rw[S6] at JR;clear hcs aei S6 HI cz1 cz2 lz;go_upto_region 11 with(fail);refine forget (λ X=>Bk X zb (sf z) 90/\cH nM 90 X Y0.heap.size 0 (G A7 qz.length c7) qz/\aZ Y0 X/\Bk X gr (fL cs).toArray 88) ⟨H3.q1.ext _,H3.q2.below (aT _ _) ar,H3.t2.trans ((aT _ _).mono hz3),Hgr.o⟩ ?_;clear H3 Hgr cq lq;rintro W4 ⟨bz,hown,ml,bg⟩;have H4:=iM bz hown ml bg;clear bz hown ml bg hz3;go_loopw [10,14,44] (λ v _ i wr=>∃(q:Nat) (zi:Zn),q<=cs.length/\i=I J q/\cH nM 90 wr Y0.heap.size 0 v (qz++((cs.take q).filter λ r=>decide (r.1<=r.2)).map λ r=>z.set a r)/\Bk wr zb (sf zi) 90/\rN zi/\(∀r,zi.set a r=z.set a r)/\Bk wr gr (fL cs).toArray 88/\aZ Y0 wr/\(∀g,v.ownBlock=O g->g≠zb)) (λ _ _ i _=>cs.length - (intOf i).toNat)
         case atStart=>exact⟨0,z,ar,rfl,by simpa using H4.q2,H4.q1,hgz,λ _=>rfl,H4.t3,H4.q3,hnz⟩
         case round=>
          obtain⟨q,zi,hq,rfl,hown,bz,hgi,xZ,bg,ml,hno⟩:=hrel;obtain⟨A9,c9,rfl,hc9,J0⟩:=hown.form;have apF:c9<=9223372036854775807:=by unfold maxLen at J0;omega
          have hzw:=ml.size;by_cases hlq:q<cs.length
          · obtain⟨r,hr⟩:∃r,cs[q]?=O r:=⟨_,af hlq⟩
            have hrm:r∈cs:=az hr;obtain⟨⟨r1,r2⟩,r3,r4⟩:=hcf r hrm;have hpa:=pd hr;have cg1:wr.cell? ⟨gr,q*2,U⟩=O (I J r.1):=(bg.cell _).trans (by simpa using hpa.1);have cg2:wr.cell? ⟨gr,q*2+1,U⟩=O (I J r.2):=(bg.cell _).trans (by simpa using hpa.2);have lg:=bg.lt;have apJ:(q:Int)<(cs.length:Int):=ar;obtain⟨qs,V8⟩:∃l,qz++((cs.take q).filter λ r=>decide (r.1<=r.2)).map (λ r=>z.set a r)=l:=⟨_,rfl⟩
            have apK:qs.length<=514:=by rw[<-V8,ax,bB];have :((cs.take q).filter λ r=>decide (r.1<=r.2)).length<=(cs.take q).length:=ei _ _;rw[dh] at this;omega
            have SV:Hid (qz++((cs.take (q+1)).filter λ r=>decide (r.1<=r.2)).map (λ r=>z.set a r)=qs++if r.1<=r.2 then [z.set a r] else []):=aG (by rw[bu,hr,gQ,dH,<-List.append_assoc,V8];by_cases hle:r.1<=r.2<;>simp[hle])
            rw[V8] at hown hc9 hno⊢;clear V8 hpa hr;have HX:=yJ hown bz hgi xZ bg ml hno;have Ri:=hown.lt;clear hown bz hgi xZ bg ml hno;by_cases hle:r.1<=r.2
            · rw[if_pos hle] at SV
              have fz:=HX.q2.free;have lz:=HX.q2.lt;have Zr:zi.length=10:=HX.q3.1;have cz1:wr.cell? ⟨zb,a*2,U⟩=O (I J (atR zi a).1):=(HX.q2.cell _).trans (zq ar).1;have cz2:wr.cell? ⟨zb,a*2+1,U⟩=O (I J (atR zi a).2):=(HX.q2.cell _).trans (zq ar).2;obtain⟨z2,hz2⟩:∃z2,z.set a r=z2:=⟨_,rfl⟩;have he2:zi.set a r=z2:=(HX.q4 r).trans hz2;rw[hz2] at SV;have hg2:rN z2:=he2▸HX.q3.set a ⟨⟨r1,r2⟩,r3,r4⟩;have aej:∀r9,z2.set a r9=z.set a r9:=λ r9=>by rw[<-hz2,List.set_set]
              go_upto_region 15 with(fail);have ho:Only (λ g=>g=zb) wr ((wr.setCell ⟨zb,a*2,U⟩ (I J r.1)).setCell ⟨zb,a*2+1,U⟩ (I J r.2)):=((Only.refl (λ g=>g=zb) _).aS (p:=⟨zb,a*2,U⟩) (.inl rfl) _).aS (p:=⟨zb,a*2+1,U⟩) (.inl rfl) _;refine forget (λ X=>Bk X zb (sf z2) 90/\cH nM 90 X Y0.heap.size 0 (G A9 qs.length c9) qs/\Bk X gr (fL cs).toArray 88/\aZ Y0 X) ⟨?_,(HX.q1.only ho (λ g hg=>ar) ar (λ g hg h=>HX.t6 g hg h)).below (aj _ _) ar,(HX.q5.only ho (λ h=>(JX HX.q5 HX.q2 cj) h)).alloc _,(HX.q6.trans (ho.aK (B:=Y0.heap.size) (λ g hg=>ar) ar)).alloc (bm hzw ho.size) _⟩ ?_
              · have h9:=(HX.q2.aS (a*2) (I J r.1)).aS (a*2+1) (I J r.2)
                rw[Xj ar r,he2] at h9;exact h9.alloc _
              have Xm:=HX.t6;clear ho HX fz lz cz1 cz2 he2 Zr cg1 cg2 lg Ri hz2;rintro W5 ⟨bz,hown,bg,ml⟩;have hz5:=ml.size;have H5:=lQ bz hown bg ml Xm;have lz:=bz.lt;clear bz hown bg ml Xm
              go_wp2_with (first
               |(refine dM (o:=⟨O 57,_,_,_,_,_⟩) rfl _ _ rfl zb 0 rfl (sf z2) _ (λ j u h=>by rw[bX,H5.q1.cell];exact h) iW rfl (by rw[mO hg2.1];kernel_rfl) ?_)
               |(refine iz rfl _ 90 _ rfl (sf z2) rfl vq (G4 hg2.1) (by rw[mO hg2.1];decide) (by rw[mO hg2.1];decide) (G5 hg2.1) ?_)
               |(at_builtin;refine en (T:=nM) (base:=Y0.heap.size) (B:=0) (qs:=qs) (v:=G A9 qs.length c9) rfl _ _ _ rfl 160 vq aV cj NZ rfl (H5.q2.below (aj _ _) ar) (O ⟨W5.heap.size,0,U⟩) 1 1 [z2] [fL z2] rfl rfl rfl (λ i a1 a2=>by obtain rfl:i=0:=(by simp at a1;omega);exact JW _ _ hg2.1 hg2.2) (by have :=gL (Bk.new W5 (sf z2) 90) 1;simpa [sf] using this) (by unfold maxLen;omega) ar gW ar ?_;intro A8 c8 w8 ew eM Aj yK;have H8:=iM ew eM Aj yK;clear ew eM Aj yK))
              go_roundw
              case rel=>
               refine⟨q+1,z2,ar,gC,by rw[SV.o];exact H8.q1,I8 H8.q3 (H5.q1.alloc _) (λ e=>H5.t4 zb e.symm rfl),hg2,aej,I8 H8.q3 (H5.q3.alloc _) (JY H5.q2 H5.q3 cj),(H5.q4.alloc hz5 _).trans H8.q2,λ g hg=>?_⟩;rw[Xk] at hg;rcases H8.t3 with h|h
               · exact H5.t4 g (h.symm.trans hg)
               · rw[hg] at h
                 simp at h;omega
              case measure=>simp[intOf];omega
            · rw[if_neg hle,dU] at SV
              go_wp2_with fail;go_roundw
              case rel=>exact⟨q+1,zi,ar,gC,by rw[SV.o];exact HX.q1.below (aj _ _) ar,HX.q2.alloc _,HX.q3,HX.q4,HX.q5.alloc _,HX.q6.alloc hzw _,HX.t6⟩
              case measure=>simp[intOf];omega
          · obtain rfl:q=cs.length:=ar
            rw[aX] at hown hc9⊢;obtain⟨qs,V8⟩:∃l,qz++(cs.filter λ r=>decide (r.1<=r.2)).map (λ r=>z.set a r)=l:=⟨_,rfl⟩;rw[V8] at hown hc9 JR⊢;have HX:=dt hown ml;clear V8 hown bz hgi xZ bg ml hno;go_wp2_with fail;go_roundw
            case rel=>exact⟨j+1,ar,gC,by rw[JR.o];exact HX.q1,HX.t1⟩
            case measure=>simp[intOf];omega
       · obtain rfl:j=zs.length:=ar
         rw[aX] at hown EJ⊢;rw[<-HO.q5] at hown EJ⊢;have HX:=iM hown EJ EX ml;clear hown EJ EX ml cq lq;go_wp2_with fail;go_roundw
         case rel=>exact⟨k+1,A7,c7,ar,gC,HO.q6,rfl,HX.q1.elems ar (ah _),HX.q2,HX.q3,HY.q1.trans (HX.t3.mono hwy)⟩
         case measure=>simp[intOf];omega
    · have hne:G2 L (nm,op,nn,n,fR)=.panicked [{v:=.iface 99 (.agg #[I J (eI L (nm,op,nn,n,fR)).1,I J fR]),recovered:=false}]:=by unfold G2;rw[if_neg h0]
      rw[if_neg h0] at IJ;have hst:=zo IJ;have HO:=fH hw hne hst;clear hw hne hst IJ Xl hE mP h0;as_aux_lemma=>
      go_wp2_with (go_at_call 156;refine(Dc nm op nn n fR sb L _ ((HH.t1.below (HO.q1)).below (aj _ _)) h1 h2).mono ?_;rintro e w2 ⟨he,hb2⟩;rw[HO.q2] at he;subst he);refine⟨rfl,aq (ay HO.q1 _) hb2,?_⟩;rw[HO.t2]
  · obtain rfl:k=ts.length:=ar
    rw[aX] at mP hE hc5⊢;have HO:=lQ hw hE mP hc5 hm5;clear hw hE mP hc5 hm5;as_aux_lemma=>
    go_wp2_with fail;go_ret;refine⟨HO.q1,?_⟩;rw[HO.q3];exact⟨A5,c5,rfl,HO.q4,HO.t4,HO.q2⟩
end
end Go.Proofs.YtbcpcneadjcmlaaGreatDoor
