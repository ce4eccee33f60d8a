import Derived.Test.YtbcpcneadjcmlaaGreatDoorK09
namespace Go.Proofs.YtbcpcneadjcmlaaGreatDoor
open Go.Proofs.Tryz
set_option maxRecDepth 100000
set_option maxHeartbeats 16000000
set_option linter.unusedVariables false
set_option linter.unusedSimpArgs false
open Value renaming int→I,slice→G,pointer→M
open IntKind renaming i64→J
open Obj renaming cells→D
open Option renaming some→O,none→U
open Go renaming Value→R,World→agb
section
open Go.RowKit
def jy(L:Nm)(ws:List (List Ts)):List Zn:=ws.flatMap (gJ L)
theorem J2{L:Nm}{ws:List (List Ts)}{k:Nat}{l:List Ts}(h:ws[k]?=O l):jy L (ws.take (k+1))=jy L (ws.take k)++gJ L l:=by unfold jy;rw[bu,h,eJ];simp
theorem Dg{L:Nm}{l:List Ts}(h:l.length<=8):(gJ L l).length<=256:=by have :=uQ (L:=L) (l:=l) l.length;rw[aX] at this;exact bm this (bm (Nat.pow_le_pow_right cj h) cj)
theorem wy{L:Nm}:∀{ws:List (List Ts)},(∀l∈ws,l.length<=8)->(jy L ws).length<=256*ws.length
 |[],_=>by simp[jy]
 |l::r,h=>by
  have h1:=Dg (L:=L) (h l bY);have h2:=wy (L:=L) (ws:=r) (λ x hx=>h x (by simp[hx]));have e:jy L (l::r)=gJ L l++jy L r:=by simp[jy]
  rw[e,ax,bD];omega
theorem FN{L:Nm}:∀{ws:List (List Ts)}{k:Nat}{l:List Ts},oQ L (ws.take k)=U->ws[k]?=O l->oQ L (ws.take (k+1))=kP L l
 |[],k,l,_,h=>by simp at h
 |x::r,0,l,_,h=>by
  simp at h;subst h;simp only[fU,List.take_zero,oQ];cases kP L x<;>rfl
 |x::r,k+1,l,hb,h=>by
  simp only[fU,oQ] at hb⊢;cases hx:kP L x with
  |some e=>rw[hx] at hb;cases hb
  |none=>rw[hx] at hb;simp only at hb⊢;exact FN hb (by simpa using h)
theorem FO{L:Nm}:∀{ws:List (List Ts)}{k:Nat}{e:Int×Int},oQ L (ws.take k)=O e->oQ L ws=O e
 |[],k,e,h=>by simp[oQ] at h
 |x::r,0,e,h=>by simp[oQ] at h
 |x::r,k+1,e,h=>by
  simp only[fU,oQ] at h⊢;cases hx:kP L x with
  |some e9=>rw[hx] at h;exact h
  |none=>rw[hx] at h;exact FO h
theorem L6(L:Nm)(t:Ts):(eI L t).1=0\/(eI L t).1=8\/(eI L t).1=10\/(eI L t).1=2:=by
 unfold eI;split
 · simp
 · split
   · simp
   · split
     · simp
     · split<;>simp
theorem N0{L:Nm}:∀{l:List Ts}{e:Int×Int},kP L l=O e->e.1≠0/\fits e.1
 |[],e,h=>by simp[kP] at h
 |t::l,e,h=>by
  unfold kP at h;by_cases h0:(eI L t).1=0
  · rw[if_pos h0] at h;exact N0 h
  · rw[if_neg h0] at h
    cases h
    refine⟨h0,?_⟩;rcases L6 L t with h|h|h|h<;>simp[h,fits]
theorem ya{L:Nm}:∀{ws:List (List Ts)}{e:Int×Int},oQ L ws=O e->e.1≠0/\fits e.1
 |[],e,h=>by simp[oQ] at h
 |l::r,e,h=>by
  unfold oQ at h;cases hx:kP L l with
  |some e9=>rw[hx] at h;cases h;exact N0 hx
  |none=>rw[hx] at h;exact ya h
end
section
open Go.RowKit Go.ChangeAt
attribute [local go_sem] aQ aC bW
def PO(x:It)(v:R):Array R:=#[I J x.1,.string x.2.1,v,I J x.2.2.2.1,I J x.2.2.2.2.1.1,I J x.2.2.2.2.1.2,I J x.2.2.2.2.2.1.1,I J x.2.2.2.2.2.1.2]
def J3(w:agb)(L:Nm)(tw:Bool)(x:It)(e:Ending)(w':agb):Prop:=
 aZ w w'/\if(fN L tw x).1=0 then
  ∃A c,e=.returned (.tuple #[.agg (PO x (G A (jI L x).length c)),.agg #[I J 0,I J 0]])/\cH nM 90 w' 0 0 (G A (jI L x).length c) (jI L x)
 else e=.returned (.tuple #[.agg kZ,.agg #[I J (fN L tw x).1,I J (fN L tw x).2]])
theorem PQ{w:agb}{B:Nat}{A:dB}{zs:List Zn}(h:cG nM w B A zs):
 ∃css:List (List R),css.length=zs.length/\(∀(X:agb)(b i:Nat)(h1:i<zs.length)(h2:i<css.length),nM.rd X b css[i] zs[i])/\Cn w A zs.length css.flatten:=by
 obtain⟨css,f1,f2,_,_,f5⟩:=h.flat;refine⟨css,f1,λ X b i h1 h2=>?_,uJ f5 (aA _ _)⟩;have h9:=f2 i h1 h2;obtain⟨e,hz,hf⟩:=mG h9;rw[e];exact JW X b hz hf
theorem pq{w w'':agb}{L:Nm}{x:It}{er ot:Int}{tw:Bool}(hf:fN L tw x=(er,ot))(hne:er≠0)(hb:aZ w w''):
 J3 w L tw x (.returned (.tuple #[.agg kZ,.agg #[I J er,I J ot]])) w'':=by
 refine⟨hb,?_⟩;rw[if_neg (by rw[hf];exact hne),hf]
theorem L8(x:It)(A:dB)(n c:Nat):(PO x (G A n c)).all (·.oneCell')=true:=by rw[dJ];intro u hu;simp only[PO,List.mem_toArray,aR,bH,or_false] at hu;rcases hu with rfl|rfl|rfl|rfl|rfl|rfl|rfl|rfl<;>rfl
theorem FP{w w'':agb}{L:Nm}{x:It}{A:dB}{zs:List Zn}{c:Nat}{tw:Bool}(hf:fN L tw x=(0,0))(hz:jI L x=zs)(hb:aZ w w'')(h3:cH nM 90 w'' 0 0 (G A zs.length c) zs):
 J3 w L tw x (.returned (.tuple #[.agg (PO x (G A zs.length c)),.agg #[I J 0,I J 0]])) w'':=by
 subst hz;refine⟨hb,?_⟩;rw[if_pos (by rw[hf])];exact⟨A,c,rfl,h3⟩
theorem S7{w:agb}{base:Nat}{e:TypeId}{size:Nat}{v:R}{n:Nat}{xs:List R}(h:w.ownsRow base e size v n xs):w.ownsRow 0 e size v n xs:=by
 obtain⟨h1,h2|⟨g,cap,cur,h2,_,h3⟩⟩:=h
 · exact⟨h1,.inl h2⟩
 · exact⟨h1,.inr ⟨g,cap,cur,h2,ak _,h3⟩⟩
theorem FQ{w w'':agb}{base B:Nat}{v:R}{zs:List Zn}{S:Nat->Prop}(h:cH nM 90 w base B v zs)(ho:Only S w w'')(hn:∀g,v.ownBlock=O g->¬S g):cH nM 90 w'' 0 0 v zs:=by
 obtain⟨css,k1,k2,k3⟩:=h
 exact⟨css,k1,λ i a1 a2=>by obtain⟨e,hz,hf⟩:=mG (k2 i a1 a2);rw[e];exact JW _ _ hz hf,S7 (ee k3 ho hn)⟩
theorem Xp{w:agb}{g:Nat}{z:Zn}(h:Bk w g (sf z) 90)(hz:rN z):cH nM 90 w 0 0 (G (O ⟨g,0,U⟩) 1 1) [z]:=by
 refine⟨[fL z],rfl,λ i a1 a2=>?_,?_,.inr ⟨g,1,sf z,rfl,ak _,h,ah _,by simp[maxLen],?_,?_⟩⟩
 · obtain rfl:i=0:=by simpa using a1
   exact JW w 0 hz.1 hz.2
 · simp[iy,hz.1];rfl
 · rw[mO hz.1];rfl
 · have h9:nM.n=20:=rfl
   have h8:(fL z).length=20:=by rw[iy,hz.1]
   simp[sf,h9,h8,cU]
def aa0(aak:List Deferred)(p6 p7:R)(ch:List PanicEntry)(F:agb->Prop):lC
 | .panic c,a,w=>a.defers=aak/\a.tmps[6]?.getD undef=p6/\a.tmps[7]?.getD undef=p7/\c=ch/\F w
 |_,_,_=>False
theorem Dh{aak:List Deferred}{p6 p7:R}{ch c:List PanicEntry}{F:agb->Prop}{a:Act}{d:Nat}{v:R}{w:agb}(h6:d≠6)(h7:d≠7)(h:aa0 aak p6 p7 ch F (.panic c) (a.put (O d) v) w):aa0 aak p6 p7 ch F (.panic c) a w:=by
 obtain⟨h1,h2,h3,h4,h5⟩:=h;refine⟨h1,?_,?_,h4,h5⟩
 · rw[<-h2];simp[Act.put,iv,h6]
 · rw[<-h3];simp[Act.put,iv,h7]
theorem L9(sb:Nat)(L:Nm)(kd:Int)(nm:BA0)(AW:dB)(cw:Nat)(n rn rd sn sd fR:Int)(w:agb)(ws:List (List Ts))(B:Nat)(h:cG (eF Fs) w B AW ws)(hB:B<=w.heap.size)(hS:nQ w sb L)(h1:L.1.length<=1000000)(h2:L.2.length<=1000000)(hl:ws.length<=12)(hl8:∀l∈ws,l.length<=8)
 (h0:¬kd<1)(h7:¬7<kd)(f1:fits kd)(f2:fits n)(f3:fits rn)(f4:fits rd)(f5:fits sn)(f6:fits sd)(hq:lK (kd,nm,ws,n,(rn,rd),(sn,sd),fR)=true):
 Calls prog 27 #[M (O ⟨sb,0,U⟩),.agg #[I J kd,.string nm,G AW ws.length cw,I J n,I J rn,I J rd,I J sn,I J sd,I J fR],.bool false] w (J3 w L false (kd,nm,ws,n,(rn,rd),(sn,sd),fR)):=by
 have HH:=fH h hS hl8;clear h hS hl8;have C9:∀(fn:Fn)(first cap:Array R)(w:agb),(Instr.makeFunc fn first cap).run prog w=.ok (.func fn first cap) w:=λ _ _ _ _=>rfl;go_enter_defers func27,ntmps27
 go_upto_region 9 with(go_at_call 77;refine(Al kd nm AW ws.length cw n rn rd sn sd fR ws _ f1 f2 f3 f4 f5 f6).mono ?_;rw[hq];rintro e w9 ⟨rfl,hb⟩;obtain⟨u,rfl⟩:=dV hb;clear hb);have hsz:=ke (((w.alloc (D #[I J kd,.string nm,G AW ws.length cw,I J n,I J rn,I J rd,I J sn,I J sd,I J fR] 52)).alloc (D kZ 48)).alloc (D #[I J 0,I J 0] 99)) u;simp at hsz;refine forget (λ X=>aZ w X/\Bk X w.heap.size #[I J kd,.string nm,G AW ws.length cw,I J n,I J rn,I J rd,I J sn,I J sd,I J fR] 52/\Bk X (w.heap.size+1) (PO (kd,nm,ws,n,(rn,rd),(sn,sd),fR) (G U 0 0)) 48/\Bk X (w.heap.size+1+1) #[I J 0,I J 0] 99) ⟨dE,?_,?_,?_⟩ ?_
 · iterate 8 refine Bk.far ?_ bY _
   exact(((au w _ _ _ rfl).alloc _).alloc _).ext _
 · have h:=((au (w.alloc (D #[I J kd,.string nm,G AW ws.length cw,I J n,I J rn,I J rd,I J sn,I J sd,I J fR] 52)) (w.heap.size+1) kZ 48 bY).alloc (D #[I J 0,I J 0] 99)).ext u
   have h:=(((h.aS 0 (I J kd)).aS 1 (.string nm)).aS 2 (G U 0 0)).aS 3 (I J n);have h:=(((h.aS 4 (I J rn)).aS 5 (I J rd)).aS 6 (I J sn)).aS 7 (I J sd);simp only[kZ,dS,iD,iE] at h;exact h
 · iterate 8 refine Bk.far ?_ bY _
   exact(au _ (w.heap.size+1+1) _ _ bY).ext _
 have kS:w.heap.size<w.heap.size+1:=ar;clear hsz;generalize w.heap.size+1=rb at *;rintro W ⟨hw,bx,br,bf⟩;obtain⟨cx,lx⟩:=bx.cl0;have HW:=iM hw bx br bf;clear hw bx br bf;go_wp2_with fail;clear cx lx;go_loopw [9,46] (λ _ i wr=>∃(k:Nat) (v:R),k<=ws.length/\i=I J k/\oQ L (ws.take k)=U/\aZ w wr/\Bk wr w.heap.size #[I J kd,.string nm,G AW ws.length cw,I J n,I J rn,I J rd,I J sn,I J sd,I J fR] 52/\Bk wr rb (PO (kd,nm,ws,n,(rn,rd),(sn,sd),fR) v) 48/\Bk wr (rb+1) #[I J 0,I J 0] 99/\cH nM 90 wr (rb+2) 0 v (jy L (ws.take k))) (λ _ i _=>ws.length - (intOf i).toNat)
 case atStart=>exact⟨0,_,ar,rfl,rfl,HW.q1,HW.q2,HW.q3,HW.t3,cH.nil⟩
 case round=>
  obtain⟨k,v,hk,rfl,mP,hw,bx,br,bf,hown⟩:=hrel;obtain⟨A7,c7,rfl,EJ,EX⟩:=hown.form;have aaV:c7<=9223372036854775807:=by unfold maxLen at EX;omega
  have hwr:=hw.size;have hl8:=HH.t2;by_cases hlt:k<ws.length
  · obtain⟨b,off,A1,l,c1,rfl,hb,Hk,g0,gl,HE⟩:=CF (HH.q1.keep (hw.mono hB) (ah _)) hlt
    have kq:(k:Int)<(ws.length:Int):=ar;have bw:b<wr.heap.size:=ar;have h8:l.length<=8:=hl8 l (az Hk.o);have IJ:=FN mP Hk.o;have Xl:=J2 (L:=L) Hk.o;have HZ:=aG (λ(X:agb) (hX:aZ wr X)=>PJ sb L A1 l c1 X B (HE.o.keep (hX.mono (show B<=wr.heap.size from ar)) (ah _)) (by have :=hX.size;omega) ((HH.q2.below hw).below hX) h1 h2 h8);clear hl8;cases hx:kP L l with
    |some e=>
     obtain⟨er,ot⟩:=e;rw[hx] at IJ;have hst:=FO IJ;have hne:=ya hst
     have hf:fN L false (kd,nm,ws,n,(rn,rd),(sn,sd),fR)=(er,ot):=by unfold fN;rw[if_neg bY,if_neg gW,if_neg (by rw[hq];simp)];simp only[hst]
     have HX:=yJ hf hne hw bx br bf hx;have cr2:wr.cell? ⟨rb,2,U⟩=O (G A7 (jy L (ws.take k)).length c7):=br.cell 2;have lr:=br.lt;clear hf hst hne IJ Xl hw bx br bf hx hown mP HE;as_aux_lemma=>
     go_upto_region 12 with(fail);refine Code.wp_mono (Q:=aa0 [{target:=.fn (.func 76) #[M (O ⟨rb,0,U⟩),M (O ⟨rb+1,0,U⟩)],args:=#[]}] (M (O ⟨rb,0,U⟩)) (M (O ⟨rb+1,0,U⟩)) [{v:=.iface 99 (.agg #[I J er,I J ot]),recovered:=false}] (λ w'=>aZ wr w')) (λ e a w' hp=>?_) ?_
     · cases e with
       |panic c=>
        obtain⟨tm,df⟩:=a;obtain⟨rfl,h6,h7,rfl,hb2⟩:=hp;refine leaves_cons (f:=76) (args:=#[M (O ⟨rb,0,U⟩),M (O ⟨rb+1,0,U⟩)]) bY (by simp[go_sem]) ?_;refine(po rb (rb+1) er ot _ _ _ _ _ _ _ _ _ _ _ (HX.q5.below hb2) (HX.q6.below hb2)).mono ?_;rintro e u' w'' ⟨rfl,rfl,b1,b2,ho⟩;have c1:=b1.cell;have c2:=b2.cell;have l1:=b1.lt;have l2:=b2.lt;have hend:=pq HX.q1 HX.q2.1 ((HX.q3.trans (hb2.mono ar)).trans (ho.aK (B:=w.heap.size) (λ g hg=>ar) (by have :=hb2.size;omega)));have Ma:=aG hend;clear hend b1 b2 ho hb2;simp[Leaves,settle,results,results27,go_sem,c1,c2,l1,l2,kZ,h6,h7];exact Ma.o
       |_=>exact hp.elim
     refine wp_region_any aV ?_;change wpAny _ _ _ _ _ _ _ (World.drew _);refine wpAny_take (i:=0) (v:=?v0) (by exact rfl) aV aV aV ?q0 (Or.inl ⟨by rfl,λ w=>?y0⟩) ?_
     case y0=>
      go_simp
      all_goals(with_reducible rfl)
     case q0=>exact λ c a w h=>Dh cj cj h
     refine wpAny_take (i:=2) (v:=?v2) (by exact rfl) aV aV aV ?q2 (Or.inl ⟨by rfl,λ w=>?y2⟩) ?_
     case y2=>
      go_simp
      all_goals(with_reducible rfl)
     case q2=>exact λ c a w h=>Dh cj cj h
     refine wpAny_take (i:=3) (v:=?v3) (by exact rfl) aV aV aV ?q3 (Or.inl ⟨by rfl,λ w=>?y3⟩) ?_
     case y3=>
      go_simp
      all_goals(with_reducible rfl)
     case q3=>exact λ c a w h=>Dh cj cj h
     refine wpAny_ready (rs:=[1,4]) aV bY ?_;refine AllReady.cons rfl (λ K hK=>?_) (AllReady.cons rfl (λ K hK=>?_) AllReady.nil)
     · go_simp
       refine hK _ _ ?_;clear hK K;refine wpAny_ready (rs:=[4]) aV bY ?_;refine AllReady.cons rfl (λ K hK=>?_) AllReady.nil;go_simp;refine(HZ.o _ ((aA _ _).drew)).mono ?_;rintro e w2 ⟨hb2,he⟩;rw[HX.t6] at he;subst he;exact⟨rfl,rfl,rfl,rfl,(aA _ _).drew.trans hb2⟩
     · go_simp
       refine(HZ.o _ ((aA _ _).drew)).mono ?_;rintro e w2 ⟨hb2,he⟩;rw[HX.t6] at he;subst he;exact⟨rfl,rfl,rfl,rfl,(aA _ _).drew.trans hb2⟩
    |none=>
     rw[hx] at IJ;have hlen:(gJ L l).length<=256:=Dg h8
     have S8:(jy L (ws.take k)).length<=3072:=by have :=wy (L:=L) (ws:=ws.take k) (λ x hx=>HH.t2 x (jB hx));rw[dh] at this;omega
     have Q8:=aG (λ(X:agb) (hX:aZ wr X)=>(HZ.o X hX).mono (R':=λ e w'=>∃A c,e=.returned (G A (gJ L l).length c)/\aZ X w'/\(gJ L l).length<=c/\c<=maxLen/\ic nM w' A (gJ L l)) (λ e w' h=>by obtain⟨g1,g2⟩:=h;rw[hx] at g2;obtain⟨A,c,g2,g3,g4,g5⟩:=g2;exact⟨A,c,g2,g1,g3,g4,g5⟩))
     clear HZ;obtain⟨zp,hzp⟩:∃z,gJ L l=z:=⟨_,rfl⟩;rw[hzp] at hlen Xl Q8;obtain⟨qs,V8⟩:∃z,jy L (ws.take k)=z:=⟨_,rfl⟩;rw[V8] at S8 Xl hown br EJ;obtain⟨ob,oJ⟩:∃o,(G A7 qs.length c7).ownBlock=o:=⟨_,rfl⟩;have Ri:=hown.lt;rw[oJ] at Ri;have nr:¬ob=O rb:=λ e=>by have :=Ri rb e;omega
     have nf:¬ob=O (rb+1):=λ e=>by have :=Ri _ e;omega
     have nx:¬ob=O w.heap.size:=λ e=>by have :=Ri _ e;omega
     have cr2:wr.cell? ⟨rb,2,U⟩=O (G A7 qs.length c7):=br.cell 2;have lr:=br.lt;have xr:∀u,(jP ob wr u).cell? ⟨rb,2,U⟩=O (G A7 qs.length c7):=λ u=>(fE rb 2 lr nr).trans cr2;have hzs:rb+2<=wr.heap.size:=by have :=bf.lt;omega
     have HX:=yK hw bx br bf hown IJ Xl oJ;have kW:=aG (show Only (λ g=>ob=O g) wr wr.drew from(Only.refl _ _).drew);clear IJ Xl hw bx br bf hx hown mP HE hzp V8 oJ;go_upto_region 12 with(fail);refine ed (S:=λ w'=>∃u,w'=jP ob wr u) [([0,1,2,3],[4,5]),([6],[])] 7 aV aV (dT kW.o) ?_;refine bT (λ K9 h9=>?_);simp only[aH,aU,aW,aa,ae];repeat(go_big_quiet_step (fail))
     refine wpQuiet_nil (h9 _ ?_);clear h9 K9;refine cM (λ K9 h9=>?_);simp only[aW,aa,ae];go_wp2_with (go_at_call 78;refine(Q8.o _ ((aA _ _).drew)).mono ?_;rintro e w2 ⟨A9,c9,rfl,g1,g2,g3,g4⟩;have H2:=iM g1 g2 g3 g4;clear g1 g2 g3 g4);have FA:Only (λ g=>ob=O g) wr w2:=kW.o.trans (aw H2.q1);refine h9 _ _ (dT FA) ?_;clear h9 K9;have Xq:=aG FA;have hz2:=FA.size;obtain⟨css,k1,k2,k3⟩:=PQ H2.t3;have HC:=fH k1 k2 k3;clear k1 k2 k3 FA;refine cM (λ K9 h9=>?_);simp only[aW,aa,ae];refine en (T:=nM) (base:=rb+2) (B:=0) (qs:=qs) (v:=G A7 qs.length c7) rfl _ _ _ rfl 160 vq aV cj NZ rfl (HX.q5.below ((aA _ wr).drew.trans H2.q1) ar) A9 zp.length c9 zp css rfl rfl HC.q1 (λ i a1 a2=>HC.q2 _ _ i a1 a2) HC.t2 (by unfold maxLen;omega) ar ar ar ?_;intro A8 c8 w8 ew eM Aj yK;show K9 _ _;go_simp;have Am:Only (λ g=>ob=O g) wr w8:=Xq.o.grown Aj (λ g e=>.inl (HX.t7.symm.trans e));have H8:=dt ew Am;refine h9 _ _ (dT Am) ?_;clear h9 K9 ew eM Aj yK Am;refine bU ?_;refine bT (λ K9 h9=>?_);simp only[aH,aU,aW,aa,ae];repeat(go_big_quiet_step (fail))
     refine wpQuiet_nil (h9 _ ?_);clear h9 K9;refine bU (dF ?_);simp only[aW,aa,ae];have br8:=HX.q3.only H8.t1 nr;have cq8:w8.cell? ⟨rb,2,U⟩=O (G A7 qs.length c7):=br8.cell 2;have fq8:=br8.free 2;have lq8:=br8.lt;have S9:=aG br8;clear br8;go_wp2_with fail;go_roundw
     case rel=>
      have hz8:=H8.t1.size;refine⟨k+1,G A8 (qs.length+zp.length) c8,ar,gC,HX.q6,?_,(HX.q2.only H8.t1 nx).far gW _,?_,(HX.q4.only H8.t1 nf).far bY _,?_⟩
      · exact((HX.q1.trans (H8.t1.aK (B:=w.heap.size) (λ g hg=>by have :=Ri g hg;omega) hwr)).setCell gW _)
      · have h9:=S9.o.aS 2 (G A8 (qs.length+zp.length) c8)
        exact h9
      · rw[HX.q7]
        exact H8.q1.only ((Only.refl (λ b=>b=rb) w8).aS (p:=⟨rb,2,U⟩) (.inl rfl) _) (λ g hg=>ar) ar (λ g hg=>by have :=(H8.q1.lt g hg).1;omega)
     case measure=>simp[intOf];omega
  · obtain rfl:k=ws.length:=ar
    rw[aX] at mP hown EJ br
    have S8:(jy L ws).length<=3072:=by have :=wy (L:=L) (ws:=ws) HH.t2;omega
    have qZ:(fN L false (kd,nm,ws,n,(rn,rd),(sn,sd),fR))=if 200<(jI L (kd,nm,ws,n,(rn,rd),(sn,sd),fR)).length then(3,-1) else(0,0):=by unfold fN;rw[if_neg bY,if_neg gW,if_neg (by rw[hq];simp)];simp only[mP]
    have lr:=br.lt;have lf:=bf.lt;have cx2:wr.cell? ⟨w.heap.size,2,U⟩=O (G AW ws.length cw):=bx.cell 2;have lx:=bx.lt;by_cases hnil:ws=[]
    · have Ta:jI L (kd,nm,ws,n,(rn,rd),(sn,sd),fR)=[mH]:=by unfold jI;rw[if_pos hnil]
      rw[Ta] at qZ;have hf0:(fN L false (kd,nm,ws,n,(rn,rd),(sn,sd),fR))=(0,0):=qZ;have hz0:ws.length=0:=by rw[hnil];rfl
      have fr:=br.free 2;have cr2:wr.cell? ⟨rb,2,U⟩=O (G A7 (jy L ws).length c7):=br.cell 2;have HX:=uF hw bx br bf hf0 Ta;clear qZ hw bx br bf hown mP Ta hf0 S8 hnil;rw[hz0] at cx2;simp only[hz0];as_aux_lemma=>
      go_upto_region 16 with(first
       |(go_at_call 23;refine(Ak _).mono ?_;rintro e w1 ⟨rfl,hb⟩;obtain⟨u,rfl⟩:=dV hb;clear hb)
       |(refine iz rfl _ 90 _ rfl (sf mH) rfl vq (G4 rfl) cj cj (G5 rfl) ?_))
      refine forget (λ X=>aZ w X/\Bk X rb (PO (kd,nm,ws,n,(rn,rd),(sn,sd),fR) (G (O ⟨(ext wr u).heap.size,0,U⟩) 1 1)) 48/\Bk X (rb+1) #[I J 0,I J 0] 99/\Bk X (ext wr u).heap.size (sf mH) 90/\rb+1<(ext wr u).heap.size/\(ext wr u).heap.size<X.heap.size) ⟨?_,((HX.q3.ext u).aS 2 _).alloc _,((HX.q4.ext u).far bY _).alloc _,au _ _ _ _ bY,bW lf,bY⟩ ?_
      · exact((HX.q1.trans ((aT wr u).mono hwr)).setCell gW _).alloc (by have :=ke wr u;simp;omega) _
      generalize(ext wr u).heap.size=g0 at *;rintro Y ⟨WC,WD,hy3,hy4,hy5,hy6⟩;have cy:Y.cell? ⟨rb,2,U⟩=O (G (O ⟨g0,0,U⟩) 1 1):=WD.cell 2;have HY:=iM WC WD hy3 hy4;clear WC WD hy3 hy4 cr2 fr cx2 lx;go_upto_region 18 with(fail);clear HH hl h1 h2 hq cy
      go_wp2_with (first
       |(refine dM (o:=⟨O 71,_,_,_,_,_⟩) rfl _ _ rfl rb 0 rfl (PO (kd,nm,ws,n,(rn,rd),(sn,sd),fR) (G (O ⟨g0,0,U⟩) 1 1)) _ (λ j u h=>by rw[bX,HY.q2.cell];exact h) underlying48 rfl aV ?_)
       |(refine eK (o:=⟨U,.store 48 _ _,_,_,_,_⟩) rfl _ _ _ rfl rb (PO (kd,nm,ws,n,(rn,rd),(sn,sd),fR) (G (O ⟨g0,0,U⟩) 1 1)) rfl rfl HY.q2 aV rfl (L8 _ _ _ _) ?_;intro X7 Lg py;have H7:=dt Lg py;clear Lg py)
       |(refine eK (o:=⟨U,.store 99 _ _,_,_,_,_⟩) rfl _ _ _ rfl (rb+1) #[I J 0,I J 0] rfl rfl (HY.q3.only H7.t1 bY) aV rfl aV ?_;intro X8 Ad GV;have H8:=dt Ad GV;clear Ad GV))
      have b1:=H7.q1.only H8.t1 (show ¬rb=rb+1 from ar);refine leaves_cons (f:=76) (args:=#[M (O ⟨rb,0,U⟩),M (O ⟨rb+1,0,U⟩)]) bY (by simp[go_sem]) ?_;refine(Df rb (rb+1) X8).mono ?_;rintro e u' w'' ⟨rfl,rfl,rfl⟩;have s7:=H7.t1.size;have hoo:Only (λ g=>g=rb\/g=rb+1) _ w'':=(H7.t1.mono (λ g h=>Or.inl h)).trans (H8.t1.mono (λ g h=>Or.inr h));have Q7:=Xp ((HY.t3.only H7.t1 ar).only H8.t1 ar) zm;have Ma:=aG (FP HX.q5 HX.t5 (HY.q1.trans (hoo.aK (B:=w.heap.size) (λ g hg=>ar) ar)) Q7);have c1:=b1.cell;have c2:=H8.q1.cell;have l1:=b1.lt;have l2:=H8.q1.lt;clear hoo Q7 b1;simp[Leaves,settle,results,results27,go_sem,c1,c2,l1,l2,PO];exact Ma.o
    · have Ta:jI L (kd,nm,ws,n,(rn,rd),(sn,sd),fR)=jy L ws:=by unfold jI;rw[if_neg hnil];rfl
      have sy:0<ws.length:=by cases ws with |nil=>exact absurd rfl hnil|cons=>simp
      have V6:¬(ws.length:Int)=0:=ar;rw[Ta] at qZ;have cr2:wr.cell? ⟨rb,2,U⟩=O (G A7 (jy L ws).length c7):=br.cell 2;by_cases BK:200<(jy L ws).length
      · rw[if_pos BK] at qZ
        have HX:=lQ hw bx br bf qZ;have EH:200<((jy L ws).length:Int):=ar;clear qZ hw bx br bf hown mP Ta hnil EJ;as_aux_lemma=>
        go_wp2_with fail;refine leaves_cons (f:=76) (args:=#[M (O ⟨rb,0,U⟩),M (O ⟨rb+1,0,U⟩)]) bY (by simp[go_sem]) ?_;refine(po rb (rb+1) 3 (-1) _ _ _ _ _ _ _ _ _ _ _ HX.q3 HX.q4).mono ?_;rintro e u' w'' ⟨rfl,rfl,b1,b2,ho⟩;have c1:=b1.cell;have c2:=b2.cell;have l1:=b1.lt;have l2:=b2.lt;have Ma:=aG (pq HX.t4 cj (HX.q1.trans (ho.aK (B:=w.heap.size) (λ g hg=>ar) ar)));clear b1 b2 ho cr2;simp[Leaves,settle,results,results27,go_sem,c1,c2,l1,l2,kZ];exact Ma.o
      · rw[if_neg BK] at qZ
        have cr0:wr.cell? ⟨rb,0,U⟩=O (I J kd):=br.cell 0;have cr1:wr.cell? ⟨rb,1,U⟩=O (.string nm):=br.cell 1;have cr3:wr.cell? ⟨rb,3,U⟩=O (I J n):=br.cell 3;have cr4:wr.cell? ⟨rb,4,U⟩=O (I J rn):=br.cell 4;have cr5:wr.cell? ⟨rb,5,U⟩=O (I J rd):=br.cell 5;have cr6:wr.cell? ⟨rb,6,U⟩=O (I J sn):=br.cell 6;have cr7:wr.cell? ⟨rb,7,U⟩=O (I J sd):=br.cell 7;have fr:=br.free;have ff:=bf.free;have HX:=yJ hw bx br bf qZ hown Ta;have EH:(jy L ws).length<=200:=ar;have Zg:¬200<((jy L ws).length:Int):=ar;clear qZ hw bx br bf hown mP Ta hnil BK;as_aux_lemma=>
        go_upto_region 18 with(fail);clear HH cx2 lx hl h1 h2 hq cr0 cr1 cr2 cr3 cr4 cr5 cr6 cr7 fr ff
        go_wp2_with (first
         |(refine dM (o:=⟨O 71,_,_,_,_,_⟩) rfl _ _ rfl rb 0 rfl (PO (kd,nm,ws,n,(rn,rd),(sn,sd),fR) (G A7 (jy L ws).length c7)) _ (λ j u h=>by rw[bX,HX.q3.cell];exact h) underlying48 rfl aV ?_)
         |(refine eK (o:=⟨U,.store 48 _ _,_,_,_,_⟩) rfl _ _ _ rfl rb (PO (kd,nm,ws,n,(rn,rd),(sn,sd),fR) (G A7 (jy L ws).length c7)) rfl rfl HX.q3 aV rfl (L8 _ _ _ _) ?_;intro X7 Lg py;have H7:=dt Lg py;clear Lg py)
         |(refine eK (o:=⟨U,.store 99 _ _,_,_,_,_⟩) rfl _ _ _ rfl (rb+1) #[I J 0,I J 0] rfl rfl (HX.q4.only H7.t1 bY) aV rfl aV ?_;intro X8 Ad GV;have H8:=dt Ad GV;clear Ad GV))
        have b1:=H7.q1.only H8.t1 (show ¬rb=rb+1 from ar);refine leaves_cons (f:=76) (args:=#[M (O ⟨rb,0,U⟩),M (O ⟨rb+1,0,U⟩)]) bY (by simp[go_sem]) ?_;refine(Df rb (rb+1) X8).mono ?_;rintro e u' w'' ⟨rfl,rfl,rfl⟩;have s7:=H7.t1.size;have hoo:Only (λ g=>g=rb\/g=rb+1) _ w'':=(H7.t1.mono (λ g h=>Or.inl h)).trans (H8.t1.mono (λ g h=>Or.inr h));have Q7:=FQ HX.q6 hoo (λ g hg=>by have :=(HX.q6.lt g hg).1;omega);have Ma:=aG (FP HX.q5 HX.t6 (HX.q1.trans (hoo.aK (B:=w.heap.size) (λ g hg=>ar) ar)) Q7);have c1:=b1.cell;have c2:=H8.q1.cell;have l1:=b1.lt;have l2:=H8.q1.lt;clear hoo Q7 b1;simp[Leaves,settle,results,results27,go_sem,c1,c2,l1,l2,PO];exact Ma.o
theorem Tb(sb:Nat)(L:Nm)(tw:Bool)(kd:Int)(nm:BA0)(AW:dB)(cw:Nat)(n rn rd sn sd fR:Int)(w:agb)(ws:List (List Ts))(B:Nat)(h:cG (eF Fs) w B AW ws)(hB:B<=w.heap.size)(hS:nQ w sb L)(h1:L.1.length<=1000000)(h2:L.2.length<=1000000)(hl:ws.length<=12)(hl8:∀l∈ws,l.length<=8)
 (f1:fits kd)(f2:fits n)(f3:fits rn)(f4:fits rd)(f5:fits sn)(f6:fits sd):
 Calls prog 27 #[M (O ⟨sb,0,U⟩),.agg #[I J kd,.string nm,G AW ws.length cw,I J n,I J rn,I J rd,I J sn,I J sd,I J fR],.bool tw] w (J3 w L tw (kd,nm,ws,n,(rn,rd),(sn,sd),fR)):=by
 cases tw with
 |true=>
  refine(L0 sb kd nm AW ws.length cw n rn rd sn sd fR w).mono ?_;rintro e w' ⟨rfl,hb⟩;exact pq (by simp[fN]) cj hb
 |false=>
  by_cases h0:kd<1
  · refine(L3 sb kd nm AW ws.length cw n rn rd sn sd fR w h0).mono ?_
    rintro e w' ⟨rfl,hb⟩;exact pq (by simp[fN,h0]) cj hb
  by_cases h7:7<kd
  · refine(L4 sb kd nm AW ws.length cw n rn rd sn sd fR w h0 h7).mono ?_
    rintro e w' ⟨rfl,hb⟩;exact pq (by simp[fN,h7]) cj hb
  cases hq:lK (kd,nm,ws,n,(rn,rd),(sn,sd),fR) with
  |false=>
   refine(L5 sb kd nm AW ws.length cw n rn rd sn sd fR w ws h0 h7 f1 f2 f3 f4 f5 f6 hq).mono ?_;rintro e w' ⟨rfl,hb⟩;refine pq ?_ cj hb;unfold fN;rw[if_neg bY,if_neg gW,if_pos hq]
  |true=>exact L9 sb L kd nm AW cw n rn rd sn sd fR w ws B h hB hS h1 h2 hl hl8 h0 h7 f1 f2 f3 f4 f5 f6 hq
end
end Go.Proofs.YtbcpcneadjcmlaaGreatDoor
