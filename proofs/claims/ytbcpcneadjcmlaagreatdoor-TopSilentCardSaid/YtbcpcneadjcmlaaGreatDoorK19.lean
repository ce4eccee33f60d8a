import Derived.Test.YtbcpcneadjcmlaaGreatDoorK18
namespace Go.Proofs.YtbcpcneadjcmlaaGreatDoor
open Go.Proofs.Tryz
set_option maxRecDepth 100000
set_option maxHeartbeats 16000000
set_option linter.unusedVariables false
set_option linter.unusedSimpArgs false
open Value renaming int→I,slice→G,pointer→M
open IntKind renaming i64→J
open Obj renaming cells→D
open Option renaming some→O,none→U
open Go renaming Value→R,World→agb
section
open Go.RowKit Go.Maps
attribute [local go_sem] aQ aC bW
def yw(eP:List Nat):Nat->Option Int:=λ n=>if n∈eP then O (eP.idxOf n:Int) else U
theorem Ua{eP:List Nat}{n:Nat}(h:n∉eP):Dp (yw eP) n (eP.length:Int)=yw (eP++[n]):=by
 funext x
 unfold Dp yw;by_cases hx:x=n
 · subst hx
   rw[if_pos rfl,if_pos bY,List.idxOf_append,if_neg h];simp[List.idxOf_cons]
 · rw[if_neg hx]
   by_cases hm:x∈eP
   · rw[if_pos hm,if_pos (by simp[hm]),List.idxOf_append,if_pos hm]
   · rw[if_neg hm,if_neg (by simp[hm,hx])]
def Ub(base p1 p2:Nat)(eP:List Nat)(VS:Nat->Prop)(X:agb):Prop:=∃vO mb,Bk X p1 #[vO] 117/\cH dr 3 X base 0 vO (cV eP)/\Bk X p2 #[.map (O mb)] 211/\jQ vn prog 3 3 X mb eP.length (yw eP)/\∀g,VS g↔(g=p1\/g=p2\/g=mb\/vO.ownBlock=O g)
theorem abA(base p1 p2:Nat):Gd (Ub base p1 p2) where
 only :=λ{eP VS X X' T} ⟨vO,mb,h1,h2,h3,h4,h5⟩ ho hT=>by have hn:∀g,VS g->¬T g:=λ g h h'=>hT g h' h;exact⟨vO,mb,h1.only ho (hn _ ((h5 _).2 (.inl rfl))),h2.only ho (λ _ _=>ak _) (ak _) (λ g hg=>hn _ ((h5 _).2 (.inr (.inr (.inr hg))))),h3.only ho (hn _ ((h5 _).2 (.inr (.inl rfl)))),h4.only ho (hn _ ((h5 _).2 (.inr (.inr (.inl rfl))))),h5⟩
 lt:=λ{eP VS X} ⟨vO,mb,h1,h2,h3,h4,h5⟩ g hg=>by
  rcases(h5 g).1 hg with rfl|rfl|rfl|h
  · exact h1.lt
  · exact h3.lt
  · exact h4.lt
  · exact(h2.lt g h).2
theorem Yg(w:agb)(N:List Nd)(base p1 p2:Nat)(hb:base<=w.heap.size)(hN:N.length<=1099511627776):Ic w N (Ub base p1 p2) p1 p2:=by
 intro eP VS n X hI hV sT hn bI hlen;obtain⟨vO,mb,h1,h2,h3,h4,h5⟩:=hI;obtain⟨AO,cO,hvO,hcO,hmO⟩:=h2.form;rw[dy] at hvO hcO;subst hvO
 have hap:(∀g,(G AO eP.length cO).ownBlock=O g->g≠p1/\g≠p2/\g≠mb)/\p1≠p2/\p1≠mb/\p2≠mb:=by
  refine⟨λ g hg=>?_,λ e=>?_,λ e=>?_,λ e=>?_⟩
  · obtain⟨C,hC⟩:=uw h2 hg
    exact⟨iT h2 h1 cj g hg,iT h2 h3 cj g hg,λ e=>by subst e;exact h4.gY hC⟩
  · subst e;exact absurd (fK h1 h3) cj
  · subst e;exact h4.gY h1
  · subst e;exact h4.gY h3
 have hkey:=XU (n:=n) ar;have hnf:yw eP n=U:=if_neg sT;obtain⟨c1,l1⟩:=h1.cl0;obtain⟨c2,l2⟩:=h3.cl0;have HI:=lQ h1 h2 h3 h4 h5;have HA:=fH hap hkey hnf;have EZ:eP.length<=1099511627776:=ar;clear h1 h2 h3 h4 h5 hap hkey hnf hcO hmO;go_enter func89,ntmps89;go_upto_region 1 with(at_mapUpdate;refine qH (m:=eP.length) (f:=yw eP) rfl _ _ _ _ rfl 3 3 uA tF aJ DU (by unfold maxLen;omega) rfl HI.q4 _ n rfl HA.q2 (eP.length:Int) (by simp[Lit.wf,IntKind.min,IntKind.max,IntKind.signed,IntKind.bits];omega) gC ?_;intro w3 Aq ru;have HM:=dt Aq ru;clear Aq ru);have b1:=HI.q1.only HM.t1 HA.q1.2.2.1;have b3:=HI.q3.only HM.t1 HA.q1.2.2.2;have h2:=HI.q2.only HM.t1 (λ _ _=>ak _) (ak _) (λ g hg=>(HA.q1.1 g hg).2.2);have hm:=HM.q1;rw[HA.t2] at hm;have EY:jQ vn prog 3 3 w3 mb (eP.length+1) (Dp (yw eP) n (eP.length:Int)):=hm;rw[Ua sT] at EY;obtain⟨c3,l3⟩:=b1.cl0;have H3:=iM b1 b3 h2 EY;have HO:=aG HM.t1;have hb3:base<=w3.heap.size:=by have h1:=bI.size;have h2:=HM.t1.size;omega
 clear b1 b3 h2 hm EY c1 l1 c2 l2 HM;go_wp2_with (at_builtin;go_loud (refine gM rfl _ _ rfl AO _ cO rfl (cV eP) (dy _) (H3.q3.below dE (ak _)) _ rfl (n:Int) (Bk.new _ _ _) (by unfold fits;omega) (by rw[dy];omega) gW ?_);intro A9 c9 w9 iO kH kT;have mB:Only (λ g=>(G AO eP.length cO).ownBlock=O g) w3 w9:=((Only.refl _ w3).alloc _).trans kH;have bq:=H3.q1.only mB (λ e=>(HA.q1.1 _ e).1 rfl);have cq:=bq.cell;have fq:=bq.free 0;have lq:=bq.lt;have H9:=iM iO mB kT bq;clear iO kH mB kT bq);go_end0;have ho:Only (λ g=>(G AO eP.length cO).ownBlock=O g\/g=p1) w3 (w9.setCell ⟨p1,0,U⟩ (G A9 (eP.length+1) c9)):=(H9.q2.mono λ g e=>.inl e).aS (p:=⟨p1,0,U⟩) (.inl (.inr rfl)) _;have Mz:Only (λ g=>g=p1) w9 (w9.setCell ⟨p1,0,U⟩ (G A9 (eP.length+1) c9)):=(Only.refl (λ g=>g=p1) w9).aS (p:=⟨p1,0,U⟩) (.inl rfl) _;have e9:cV eP++[(n:Int)]=cV (eP++[n]):=by simp[cV]
 have Gf:=H9.q1;rw[e9] at Gf;have hsz:=HO.o.size;refine⟨rfl,λ g=>g=p1\/g=p2\/g=mb\/(G A9 (eP.length+1) c9).ownBlock=O g,⟨G A9 (eP.length+1) c9,mb,H9.t3.aS 0 _,Gf.only Mz (λ _ _=>ak _) (ak _) (iT Gf H9.t3 cj),H3.q2.only ho (λ hg=>hg.elim (λ e=>(HA.q1.1 _ e).2.1 rfl) (λ e=>HA.q1.2.1 e.symm)),?_,λ g=>Iff.rfl⟩,(HO.o.mono λ g e=>(HI.t4 g).2 (.inr (.inr (.inl e)))).trans' ho (λ g hg=>.inl ((HI.t4 g).2 (hg.elim (λ e=>.inr (.inr (.inr e))) (λ e=>.inl e)))),λ g hg=>?_⟩
 · have h:=H3.t3.only ho (λ hg=>hg.elim (λ e=>(HA.q1.1 _ e).2.2 rfl) (λ e=>HA.q1.2.2.1 e.symm))
   rw[ax];exact h
 · rcases hg with hg|hg|hg|hg
   · exact .inl ((HI.t4 g).2 (.inl hg))
   · exact .inl ((HI.t4 g).2 (.inr (.inl hg)))
   · exact .inl ((HI.t4 g).2 (.inr (.inr (.inl hg))))
   · rcases H9.q3 g hg with q|q
     · exact .inl ((HI.t4 g).2 (.inr (.inr (.inr q))))
     · exact .inr (by simp at q;omega)
def Yh(p1:Nat)(eP:List Nat)(VS:Nat->Prop)(X:agb):Prop:=∃k:Nat,Bk X p1 #[I J k] 3/\k<=eP.length/\(eP=List.range eP.length->k=eP.length)/\∀g,VS g↔g=p1
theorem abB(p1:Nat):Gd (Yh p1) where
 only :=λ{eP VS X X' T} ⟨k,h1,h2,h3,h4⟩ ho hT=>⟨k,h1.only ho (λ h=>hT _ h ((h4 _).2 rfl)),h2,h3,h4⟩
 lt:=λ{eP VS X} ⟨k,h1,h2,h3,h4⟩ g hg=>by rw[(h4 g).1 hg];exact h1.lt
theorem Gg{eP:List Nat}{n:Nat}(h:eP++[n]=List.range (eP.length+1)):eP=List.range eP.length/\n=eP.length:=by rw[fX] at h;have :=List.append_inj h bY;exact⟨this.1,by simpa using this.2⟩
theorem Yi(w:agb)(N:List Nd)(p1:Nat)(hN:N.length<=1099511627776):Ie w N (Yh p1) p1:=by
 intro eP VS n X hI hV sT hn bI hlen;obtain⟨k,h1,h2,h3,h4⟩:=hI;obtain⟨c1,l1⟩:=h1.cl0;have f1:=h1.free 0;have hkb:k<=1099511627776:=ar;have HI:=iM h1 h2 h3 h4;clear h1 h2 h3 h4;by_cases RO:n=k
 · as_aux_lemma=>subst RO;go_enter func91,ntmps91;go_wp2_with fail;go_end0;have ho:Only (λ g=>g=p1) X (X.setCell ⟨p1,0,U⟩ (I J ((n:Int)+1))):=(Only.refl (λ g=>g=p1) X).aS (p:=⟨p1,0,U⟩) (.inl rfl) _;refine⟨rfl,VS,⟨n+1,HI.q1.aS 0 _,by rw[ax];have :=HI.q2;simp;omega,λ hr=>?_,HI.t3⟩,ho.mono λ g e=>(HI.t3 g).2 e,λ g h=>.inl h⟩;rw[ax] at hr⊢;have :=Gg hr;simp;omega
 · as_aux_lemma=>have aqM:¬(n:Int)=(k:Int):=ar;go_enter func91,ntmps91;go_wp2_with fail;go_end0;refine⟨rfl,VS,⟨k,HI.q1,by rw[ax];have :=HI.q2;omega,λ hr=>?_,HI.t3⟩,Only.refl _ _,λ g h=>.inl h⟩;rw[ax] at hr;have h:=Gg hr;have :=HI.q3 h.1;omega
theorem Qk{N:List Nd}{L:List Dk}(h:BW aP N L):uX N:=λ n c hn hc=>by
 obtain⟨nd,h1,h2,h3⟩:=rF hc;rcases h.form n nd h1 with⟨hk,_⟩|⟨_,_,_,_,_,_,_,hk⟩
 · rw[<-h2,hk] at hc;exact absurd hc bY
 · have :=(hk c (by rw[h2];exact hc)).1
   omega
theorem Uc{X:agb}{base:Nat}{F:Nat->Prop}{A:dB}{k c:Nat}{N:List Nd}{e:TypeId}(h:mz vH e F X base (G A k c) (N.map pA)){n:Nat}{nd:Nd}(hn:N[n]?=O nd){b off:Nat}{A1:dB}{m c1:Nat}(hA:A=O ⟨b,off,U⟩)(hc:X.cell? ⟨b,off+n*4+1,U⟩=O (G A1 m c1)):ki (eF dr) F X [G A1 m c1] nd.cJ:=by
 obtain⟨css,h1,h2,h3⟩:=h;have hl:=(ai.1 hn).1;have hl':n<(N.map pA).length:=by rw[bB];exact hl
 have hlc:n<css.length:=ar;have hr:=h3 n hl' hlc
 have hk:k=(N.map pA).length:=by obtain⟨A',c',e1,_,_⟩:=fM h2;injection e1
 subst hk;obtain⟨g,cur,hA',hg1,hg2,hb,h4,h5,h6,h7⟩:=yO h2 ar;rw[hA] at hA';injection hA' with hA'
 injection hA' with e1 e2
 subst e1;subst e2
 have hx:(N.map pA)[n]=pA nd:=by
  rw[jT];congr 1
  exact(ai.1 hn).2
 rw[hx] at hr
 have Ud:∀c∈css,c.length=vH.n:=λ c hc=>by obtain⟨i,hi,rfl⟩:=bo.1 hc;exact vH.len (h3 i ar hi).rd
 obtain⟨k1,k2,e1,⟨Xv,f1⟩,k3,k4,e2,⟨B1,d1,e3,q1,q2,q3⟩,k5,k6,e4,⟨B2,d2,e5,r1,r2,r3⟩,⟨e6,f2⟩⟩:=hr.rd
 have hcs:css[n]=[I J nd.attr,G B1 nd.cJ.length d1,G B2 (cV nd.kids).length d2,I J nd.leaf]:=by rw[e1,Xv,e2,e3,e4,e5,e6];rfl
 have hcell:X.cell? ⟨b,0+n*4+1,U⟩=O (G B1 nd.cJ.length d1):=by
  have h8:=kO css n 1 _ Ud (af hlc) (by show 1<4;omega);rw[hcs] at h8
  have h9:cur[n*4+1]?=O (G B1 nd.cJ.length d1):=by
   have h10:(cur.toList.take ((N.map pA).length*vH.n))[n*4+1]?=O (G B1 nd.cJ.length d1):=by rw[h7];exact h8
   rw[gP] at h10;split at h10
   · simpa using h10
   · cases h10
  rw[bX,hb.cell];exact h9
 rw[hcell] at hc;injection hc with hc
 injection hc with c1' c2' c3'
 subst c1';subst c2';subst c3';refine⟨λ u hu=>by rw[aN] at hu;subst hu;rfl,hr.2.1,λ X' hz hk=>?_⟩;obtain⟨k1',k2',e1,⟨Xv,f1⟩,k3',k4',e2,⟨B1',d1',e3,q1',q2',q3'⟩,k5',k6',e4,⟨B2',d2',e5,r1',r2',r3'⟩,⟨e6,f2⟩⟩:=hr.2.2 X' hz hk;rw[hcs] at e1;rw[Xv,e2,e3,e4,e5,e6] at e1
 have e7:G B1 nd.cJ.length d1=G B1' nd.cJ.length d1':=by have :=congrArg (λ l=>l[1]?) e1;simpa [pA] using this
 injection e7 with e8 e9 Rj
 subst e8;subst Rj;exact⟨B1,d1,rfl,q1',q2',q3'⟩
structure DX(aaf:Nat->Prop)(w:agb)(N:List Nd)(L:List Dk)(d0:Dk)(order:List Nat)(tb p2 mb g0:Nat)(vO vk wM:R)(F:Nat->Prop)(j i:Nat)(X:agb):Prop where
 low:aZ w X
 wN:Bk X tb #[vk,wM] 56
 nodes:mz vH 121 F X w.heap.size vk (((om N order).take j).map pA)
 leaves:cH Hm 63 X w.heap.size 0 wM (kf N L d0 (order.take i))
 ord:cH dr 3 X w.heap.size 0 vO (cV order)
 num:jQ vn prog 3 3 X mb order.length (yw order)
 Ql:Bk X p2 #[.map (O mb)] 211
 Kr:Bk X g0 #[G U 0 0,G U 0 0] 56
 ff:∀g,F g->(g<w.heap.size\/∃C,Bk X g C 3)
 gf:∀g,F g->aaf g\/w.heap.size<=g
 Ue:w.heap.size<=tb
 tbg:tb≠g0
section
variable{w:agb}{N:List Nd}{L:List Dk}{d0:Dk}{order:List Nat}{tb p2 mb g0:Nat}{vO vk wM:R}{F aaf T:Nat->Prop}{j i:Nat}{X X':agb}
theorem DX.keep(h:DX aaf w N L d0 order tb p2 mb g0 vO vk wM F j i X)(hb:aZ X X'):DX aaf w N L d0 order tb p2 mb g0 vO vk wM F j i X':=
 ⟨aq h.low hb,h.wN.below hb,h.nodes.below hb,h.leaves.below hb (ak _),h.ord.below hb (ak _),h.num.below hb,h.Ql.below hb,h.Kr.below hb,λ g hg=>(h.ff g hg).imp id (λ⟨C,hC⟩=>⟨C,hC.below hb⟩),h.gf,h.Ue,h.tbg⟩
theorem DX.flt(h:DX aaf w N L d0 order tb p2 mb g0 vO vk wM F j i X):∀g,F g->g<X.heap.size:=λ g hg=>by
 rcases h.ff g hg with q|⟨C,hC⟩
 · exact dI q h.low.size
 · exact hC.lt
theorem DX.fne(h:DX aaf w N L d0 order tb p2 mb g0 vO vk wM F j i X){g t:Nat}{C:Array R}(hb:Bk X g C t)(hw:w.heap.size<=g)(hne:(3:Nat)≠t):¬F g:=λ hf=>by
 rcases h.ff g hf with q|⟨C',hC⟩
 · omega
 · exact hne (fK hC hb)
theorem DX.only(h:DX aaf w N L d0 order tb p2 mb g0 vO vk wM F j i X)(ho:Only T X X')(h1:∀g,T g->w.heap.size<=g)(h2:∀g,T g->g≠tb/\g≠p2/\g≠mb/\g≠g0/\vO.ownBlock≠O g/\vk.ownBlock≠O g/\wM.ownBlock≠O g/\¬F g):DX aaf w N L d0 order tb p2 mb g0 vO vk wM F j i X':=
 ⟨h.low.trans (ho.aK h1 h.low.size),h.wN.only ho (λ hg=>(h2 _ hg).1 rfl),h.nodes.only ho (λ g hg=>(h2 g hg).2.2.2.2.2.2.2) (λ g hg hq=>(h2 g hq).2.2.2.2.2.1 hg),h.leaves.only ho (λ _ _=>ak _) (ak _) (λ g hg hq=>(h2 g hq).2.2.2.2.2.2.1 hg),h.ord.only ho (λ _ _=>ak _) (ak _) (λ g hg hq=>(h2 g hq).2.2.2.2.1 hg),h.num.only ho (λ hg=>(h2 _ hg).2.2.1 rfl),h.Ql.only ho (λ hg=>(h2 _ hg).2.1 rfl),h.Kr.only ho (λ hg=>(h2 _ hg).2.2.2.1 rfl),λ g hg=>(h.ff g hg).imp id (λ⟨C,hC⟩=>⟨C,hC.only ho (λ hq=>(h2 g hq).2.2.2.2.2.2.2 hg)⟩),h.gf,h.Ue,h.tbg⟩
theorem Uf{A1 AK:dB}{q1 nK cK base:Nat}{aak:Nd}(h1:ki (eF dr) aaf X [G A1 aak.cJ.length q1] aak.cJ)(h2:cH dr 3 X base 0 (G AK nK cK) (cV aak.kids))(ha:fits aak.attr)(hf:fits aak.leaf)(hF:∀g,F g->g<X.heap.size):
 ki vH (λ g=>F g\/aaf g\/(G AK nK cK).ownBlock=O g) X [I J aak.attr,G A1 aak.cJ.length q1,G AK nK cK,I J aak.leaf] (pA aak):=by
 have hlt:∀g,(F g\/aaf g\/(G AK nK cK).ownBlock=O g)->g<X.heap.size:=λ g hg=>by
  rcases hg with h|h|h
  · exact hF g h
  · exact h1.2.1 g h
  · exact(h2.lt g h).2
 have r2:=(ki.row iP h2).mono (F':=λ g=>F g\/aaf g\/(G AK nK cK).ownBlock=O g) (λ g hg=>.inr (.inr hg)) hlt;have r1:=h1.mono (F':=λ g=>F g\/aaf g\/(G AK nK cK).ownBlock=O g) (λ g hg=>.inr (.inl hg)) hlt
 have i1:ki dr (λ g=>F g\/aaf g\/(G AK nK cK).ownBlock=O g) X [I J aak.attr] (aak.attr:Int):=
  (ki.flat (B:=0) iP ⟨rfl,ha⟩ (λ u hu=>by rw[aN] at hu;subst hu;rfl)).mono (λ g h=>h.elim) hlt
 have i2:ki dr (λ g=>F g\/aaf g\/(G AK nK cK).ownBlock=O g) X [I J aak.leaf] (aak.leaf:Int):=
  (ki.flat (B:=0) iP ⟨rfl,hf⟩ (λ u hu=>by rw[aN] at hu;subst hu;rfl)).mono (λ g h=>h.elim) hlt
 exact i1.pair (r1.pair (r2.pair i2))
theorem DX.node(h:DX aaf w N L d0 order tb p2 mb g0 vO vk wM F j i X){A9:dB}{c9 n9:Nat}{w9:agb}{F':Nat->Prop}{j':Nat}(iO:mz vH 121 F' w9 w.heap.size (G A9 n9 c9) (((om N order).take j').map pA))(kH:Only (λ g=>vk.ownBlock=O g) X w9)(hF':∀g,F' g->(g<w.heap.size\/∃C,Bk X g C 3))(hG':∀g,F' g->aaf g\/w.heap.size<=g):
 DX aaf w N L d0 order tb p2 mb g0 vO (G A9 n9 c9) wM F' j' i (w9.setCell ⟨tb,0,U⟩ (G A9 n9 c9)):=by
 have hlt:=h.nodes.lt
 have hn:∀{g t:Nat}{C:Array R},Bk X g C t->(121:Nat)≠t->∀g',vk.ownBlock=O g'->g'≠g:=λ hb hne g' hg e=>by obtain⟨C',hC⟩:=h.nodes.typed hg;subst e;exact hne (fK hC hb)
 have ho:Only (λ g=>vk.ownBlock=O g\/g=tb) X (w9.setCell ⟨tb,0,U⟩ (G A9 n9 c9)):=(kH.mono λ g e=>.inl e).aS (p:=⟨tb,0,U⟩) (.inl (.inr rfl)) _;have Mz:Only (λ g=>g=tb) w9 (w9.setCell ⟨tb,0,U⟩ (G A9 n9 c9)):=(Only.refl (λ g=>g=tb) w9).aS (p:=⟨tb,0,U⟩) (.inl rfl) _;have Ug:Bk w9 tb #[vk,wM] 56:=h.wN.only kH (λ e=>hn h.wN cj tb e rfl)
 have S4:¬(vk.ownBlock=O mb\/mb=tb):=λ hg=>hg.elim (λ e=>by obtain⟨C,hC⟩:=h.nodes.typed e;exact h.num.gY hC) (λ e=>by subst e;exact h.num.gY h.wN)
 have hall:∀g,(vk.ownBlock=O g\/g=tb)->w.heap.size<=g:=λ g hg=>hg.elim (λ e=>(hlt g e).1) (λ e=>by rw[e];exact h.Ue);refine⟨h.low.trans (ho.aK hall h.low.size),Ug.aS 0 _,iO.only Mz (λ g hg hf=>?_) (λ g hg e=>?_),h.leaves.only ho (λ _ _=>ak _) (ak _) (λ g hg hq=>?_),h.ord.only ho (λ _ _=>ak _) (ak _) (λ g hg hq=>?_),h.num.only ho S4,h.Ql.only ho (λ hq=>hq.elim (λ e=>hn h.Ql cj _ e rfl) (λ e=>by subst e;exact absurd (fK h.Ql h.wN) cj)),h.Kr.only ho (λ hq=>hq.elim (λ e=>hn h.Kr cj _ e rfl) (λ e=>h.tbg e.symm)),λ g hg=>(hF' g hg).imp id (λ⟨C,hC⟩=>⟨C,hC.only ho (λ hq=>hq.elim (λ e=>hn hC cj g e rfl) (λ e=>by subst e;exact absurd (fK hC h.wN) cj))⟩),hG',h.Ue,h.tbg⟩
 · subst hg
   rcases hF' _ hf with q|⟨C,hC⟩
   · have :=h.Ue;omega
   · exact absurd (fK hC h.wN) cj
 · obtain⟨C,hC⟩:=iO.typed hg
   subst e;exact absurd (fK hC Ug) cj
 · obtain⟨css,_,_,hown⟩:=h.leaves
   obtain⟨C,hC⟩:=gN hown hg;exact hq.elim (λ e=>hn hC cj g e rfl) (λ e=>by subst e;exact absurd (fK hC h.wN) cj)
 · exact hq.elim (λ e=>by obtain⟨C,hC⟩:=h.nodes.typed e;exact iT h.ord hC cj g hg rfl) (λ e=>iT h.ord h.wN cj g hg e)
theorem DX.leaf(h:DX aaf w N L d0 order tb p2 mb g0 vO vk wM F j i X){A9:dB}{c9 n9:Nat}{w9:agb}{d:Dk}(iO:cH Hm 63 w9 w.heap.size 0 (G A9 n9 c9) (kf N L d0 (order.take i)++[d]))(kH:Only (λ g=>wM.ownBlock=O g) X w9)(hd:kf N L d0 (order.take i)++[d]=kf N L d0 (order.take (i+1))):
 DX aaf w N L d0 order tb p2 mb g0 vO vk (G A9 n9 c9) F j (i+1) (w9.setCell ⟨tb,1,U⟩ (G A9 n9 c9)):=by
 have hlt:=h.leaves.lt
 have NI:∀g,wM.ownBlock=O g->∃C,Bk X g C 63:=λ g hg=>by obtain⟨css,_,_,hown⟩:=h.leaves;exact gN hown hg
 have hn:∀{g t:Nat}{C:Array R},Bk X g C t->(63:Nat)≠t->∀g',wM.ownBlock=O g'->g'≠g:=λ hb hne g' hg e=>by obtain⟨C',hC⟩:=NI g' hg;subst e;exact hne (fK hC hb)
 have ho:Only (λ g=>wM.ownBlock=O g\/g=tb) X (w9.setCell ⟨tb,1,U⟩ (G A9 n9 c9)):=(kH.mono λ g e=>.inl e).aS (p:=⟨tb,1,U⟩) (.inl (.inr rfl)) _;have Mz:Only (λ g=>g=tb) w9 (w9.setCell ⟨tb,1,U⟩ (G A9 n9 c9)):=(Only.refl (λ g=>g=tb) w9).aS (p:=⟨tb,1,U⟩) (.inl rfl) _;have Ug:Bk w9 tb #[vk,wM] 56:=h.wN.only kH (λ e=>hn h.wN cj tb e rfl)
 have S4:¬(wM.ownBlock=O mb\/mb=tb):=λ hg=>hg.elim (λ e=>by obtain⟨C,hC⟩:=NI mb e;exact h.num.gY hC) (λ e=>by subst e;exact h.num.gY h.wN)
 have hall:∀g,(wM.ownBlock=O g\/g=tb)->w.heap.size<=g:=λ g hg=>hg.elim (λ e=>(hlt g e).1) (λ e=>by rw[e];exact h.Ue);refine⟨h.low.trans (ho.aK hall h.low.size),Ug.aS 1 _,h.nodes.only ho (λ g hg hf=>?_) (λ g hg hq=>?_),?_,h.ord.only ho (λ _ _=>ak _) (ak _) (λ g hg hq=>?_),h.num.only ho S4,h.Ql.only ho (λ hq=>hq.elim (λ e=>hn h.Ql cj _ e rfl) (λ e=>by subst e;exact absurd (fK h.Ql h.wN) cj)),h.Kr.only ho (λ hq=>hq.elim (λ e=>hn h.Kr cj _ e rfl) (λ e=>h.tbg e.symm)),λ g hg=>(h.ff g hg).imp id (λ⟨C,hC⟩=>⟨C,hC.only ho (λ hq=>hq.elim (λ e=>hn hC cj g e rfl) (λ e=>by subst e;exact absurd (fK hC h.wN) cj))⟩),h.gf,h.Ue,h.tbg⟩
 · rcases hg with e|e
   · obtain⟨C,hC⟩:=NI g e
     exact h.fne hC (hlt g e).1 cj hf
   · subst e
     exact h.fne h.wN h.Ue cj hf
 · obtain⟨C,hC⟩:=h.nodes.typed hg
   exact hq.elim (λ e=>hn hC cj g e rfl) (λ e=>by subst e;exact absurd (fK hC h.wN) cj)
 · rw[hd] at iO
   refine iO.only Mz (λ _ _=>ak _) (ak _) (λ g hg e=>?_);obtain⟨css,_,_,hown⟩:=iO;obtain⟨C,hC⟩:=gN hown hg;subst e;exact absurd (fK hC Ug) cj
 · exact hq.elim (λ e=>by obtain⟨C,hC⟩:=NI g e;exact iT h.ord hC cj g hg rfl) (λ e=>iT h.ord h.wN cj g hg e)
end
theorem Gh{N:List Nd}{L:List Dk}{d0:Dk}{order:List Nat}{j n:Nat}(h:order[j]?=O n):kf N L d0 (order.take (j+1))=kf N L d0 (order.take j)++if qU N n then [L.getD (N.getD n NB).leaf d0] else []:=by
 unfold kf;rw[bu,h,gQ,dH];congr 1
 by_cases hl:qU N n
 · simp[hl]
 · simp[hl]
theorem Ks{N:List Nd}{L:List Dk}{d0:Dk}(order:List Nat):(kf N L d0 order).length=(order.filter (qU N)).length:=by simp[kf]
theorem wO:∀{l:List Int}{lo hi:Int},l.Pairwise (· < ·)->(∀c∈l,lo<c/\c<=hi)->l.length<=(hi - lo).toNat
 |[],_,_,_,_=>ak _
 |c::l,lo,hi,h,hb=>by
  obtain⟨h1,h2⟩:=j8.1 h;have h3:=hb c bY;have h4:=wO (l:=l) (lo:=c) (hi:=hi) h2 (λ x hx=>⟨h1 x hx,(hb x (by simp[hx])).2⟩);simp only[bD];omega
theorem MD{N:List Nd}{L:List Dk}(h:BW aP N L){n:Nat}{nd:Nd}(hn:N[n]?=O nd):nd.kids.length<=1000000001:=by
 rcases h.form n nd hn with⟨hk,_⟩|⟨ha,_,_,hl,hp,hc,_⟩
 · rw[hk];simp
 · have :=wO hp hc
   obtain⟨b1,b2,b3⟩:=Ih nd.attr ar;omega
theorem Qm(w:agb)(zb:Nat)(hz:w.heap.size=zb):∃VS,Ub w.heap.size (zb+1+1+1) (zb+1+1) [] VS ((((w.alloc (D #[G U 0 0,G U 0 0] 56)).alloc (.map #[] 0)).alloc (D #[.map (O (zb+1))] 211)).alloc (D #[G U 0 0] 117))/\
 (∀g,VS g->w.heap.size<=g/\g≠zb)/\Bk ((((w.alloc (D #[G U 0 0,G U 0 0] 56)).alloc (.map #[] 0)).alloc (D #[.map (O (zb+1))] 211)).alloc (D #[G U 0 0] 117)) zb #[G U 0 0,G U 0 0] 56/\
 aZ w ((((w.alloc (D #[G U 0 0,G U 0 0] 56)).alloc (.map #[] 0)).alloc (D #[.map (O (zb+1))] 211)).alloc (D #[G U 0 0] 117)):=by
 obtain⟨X1,h1⟩:∃Y,Y=w.alloc (D #[G U 0 0,G U 0 0] 56):=⟨_,rfl⟩;obtain⟨X2,h2⟩:∃Y,Y=X1.alloc (.map #[] 0):=⟨_,rfl⟩;obtain⟨X3,h3⟩:∃Y,Y=X2.alloc (D #[.map (O (zb+1))] 211):=⟨_,rfl⟩;obtain⟨X4,h4⟩:∃Y,Y=X3.alloc (D #[G U 0 0] 117):=⟨_,rfl⟩;rw[<-h1,<-h2,<-h3,<-h4];have s1:X1.heap.size=zb+1:=by rw[h1];simp[hz]
 have s2:X2.heap.size=zb+1+1:=by rw[h2];simp[s1]
 have s3:X3.heap.size=zb+1+1+1:=by rw[h3];simp[s2]
 have b0:Bk X4 zb #[G U 0 0,G U 0 0] 56:=by rw[h4,h3,h2,h1];exact(((au w zb _ _ hz).alloc _).alloc _).alloc _
 have b2:Bk X4 (zb+1+1) #[.map (O (zb+1))] 211:=by rw[h4,h3];exact(au X2 _ _ _ s2).alloc _
 have b3:Bk X4 (zb+1+1+1) #[G U 0 0] 117:=by rw[h4];exact au X3 _ _ _ s3
 have b1:jQ vn prog 3 3 X4 (zb+1) 0 (λ _=>U):=by
  have h:=jQ.new vn prog 3 3 X1;rw[<-h2,s1] at h;have hb:aZ X2 X4:=by rw[h4,h3];exact ay (aj _ _) _
  exact h.below hb
 have hw:aZ w X4:=by rw[h4,h3,h2,h1];exact ay (ay (ay (aj _ _) _) _) _
 have e:yw []=λ _=>U:=by funext x;simp[yw]
 refine⟨λ g=>g=zb+1+1+1\/g=zb+1+1\/g=zb+1\/(G U 0 0).ownBlock=O g,⟨G U 0 0,zb+1,b3,cH.nil,b2,by rw[e];exact b1,λ g=>Iff.rfl⟩,λ g hg=>?_,b0,hw⟩;rcases hg with h|h|h|h
 · omega
 · omega
 · omega
 · cases h
theorem Qn(s:Bs Dk)(S:Nat->Prop)(base bb:Nat)(w:agb)(h:xC w base bb S s)(gU:BW aP s.nodes s.leaves)(d0:Dk)(root:Nat)(tU:root<s.nodes.length)(hN:s.nodes.length<=1099511627776)(hL:s.leaves.length<=1099511627776)(order:List Nat)(Uh:order=jm s.nodes root):
 Calls prog 41 #[M (O ⟨bb,0,U⟩),I J (root:Nat)] w λ e w'=>∃A1 c1 A2 c2,e=.returned (.agg #[G A1 order.length c1,G A2 (kf s.nodes s.leaves d0 order).length c2])/\aZ w w'/\(∃F,mz vH 121 F w' w.heap.size (G A1 order.length c1) ((om s.nodes order).map pA)/\∀g,F g->S g\/w.heap.size<=g)/\cH Hm 63 w' w.heap.size 0 (G A2 (kf s.nodes s.leaves d0 order).length c2) (kf s.nodes s.leaves d0 order)/\(order.length<=c1/\c1<=maxLen)/\(kf s.nodes s.leaves d0 order).length<=c2/\c2<=maxLen:=by
 obtain⟨F0,vN,vL,kn,md,lf,h0,hS⟩:=h;obtain⟨bx,bl⟩:=h0.box.cl0;obtain⟨AN,cN,hv,Kj,hmN⟩:=h0.nodes.form;rw[bB] at hv Kj;subst hv;obtain⟨AL,cL,hvL,Ol,hmL⟩:=h0.leaves.form;subst hvL;have hE:=h0.nodes.elems;have hEL:=h0.leaves.elems (ak _) (ah _);have hlt:∀n∈order,n<s.nodes.length:=by rw[Uh];exact tW gU tU
 have Ri:order.length<=s.nodes.length:=pj _ _ (by rw[Uh];exact lZ _ _) hlt;have mW:∀n∈order,∀c∈eR s.nodes n,c∈order:=by rw[Uh];exact oP gU root
 have HH:=yJ h0 hS gU hE hEL hlt mW;have HO:=aG Uh;clear h0 hS gU hE hEL hlt mW Kj hmN Ol hmL;have qf:= @run_makeMap prog;go_enter func41,ntmps41;go_upto_region 3 with fail;obtain⟨zb,hzb⟩:∃z,w.heap.size=z:=⟨_,rfl⟩;rw[hzb];refine forget (λ X4=>∃VS,Ub w.heap.size (zb+1+1+1) (zb+1+1) [] VS X4/\(∀g,VS g->w.heap.size<=g/\g≠zb)/\Bk X4 zb #[G U 0 0,G U 0 0] 56/\aZ w X4) (Qm w zb hzb) ?_;rintro X4 ⟨VS,hI,hV,hG,bI⟩;have bx4:=(HH.q1.box.below bI).cell;have bl4:=(HH.q1.box.below bI).lt;have ey:=abo w s.nodes (Ub w.heap.size (zb+1+1+1) (zb+1+1)) (zb+1+1+1) (zb+1+1) (abA _ _ _) (Yg w s.nodes _ _ _ (ah _) hN) (Qk HH.q3) HH.q3.Ls hN AN cN HH.q4 root tU VS _ bI hI (λ g hg=>(hV g hg).1);have HC:=iM ey hV hG bI;have hzw:w.heap.size<=zb:=ar;clear ey hI hV hG bI hzb Uh bx bl;go_upto_region 4 with(go_at_call 88;with_reducible refine HC.q1.mono ?_;rintro e w4 ⟨rfl,XZ,q1,q2,q3⟩;have H4:=dt q1 q2;clear q1 q2 q3)
 have hY:∃vO mb,aZ w w4/\Bk w4 (zb+1+1+1) #[vO] 117/\cH dr 3 w4 w.heap.size 0 vO (cV order)/\Bk w4 (zb+1+1) #[.map (O mb)] 211/\jQ vn prog 3 3 w4 mb order.length (yw order)/\Bk w4 zb #[G U 0 0,G U 0 0] 56:=by obtain⟨vO,mb,h1,h2,h3,h4,h5⟩:=H4.q1;have eo:mX s.nodes 12 [] root=order:=HO.o.symm;rw[eo] at h2 h4;exact⟨vO,mb,HC.t3.trans (H4.t1.aK (λ g hg=>(HC.q2 g hg).1) HC.t3.size),h1,h2,h3,h4,HC.q3.only H4.t1 (λ hg=>(HC.q2 _ hg).2 rfl)⟩
 refine forget (λ Y=>∃vO mb,aZ w Y/\Bk Y (zb+1+1+1) #[vO] 117/\cH dr 3 Y w.heap.size 0 vO (cV order)/\Bk Y (zb+1+1) #[.map (O mb)] 211/\jQ vn prog 3 3 Y mb order.length (yw order)/\Bk Y zb #[G U 0 0,G U 0 0] 56) hY ?_;clear hY H4 HC bx4 bl4;clear w4 VS XZ;rintro Y ⟨vO,mb,h1,h2,h3,h4,h5,h6⟩;obtain⟨AO,cO,hvO,hcO,hmO⟩:=h3.form;rw[dy] at hvO hcO;subst hvO;obtain⟨c1,l1⟩:=h2.cl0;go_upto_region 5 with fail;obtain⟨tb,uG⟩:∃t,Y.heap.size=t:=⟨_,rfl⟩
 have hT:DX F0 w s.nodes s.leaves d0 order tb (zb+1+1) mb zb (G AO order.length cO) (G U 0 0) (G U 0 0) (λ _=>False) 0 0 (Y.alloc (D #[G U 0 0,G U 0 0] 56))/\Bk (Y.alloc (D #[G U 0 0,G U 0 0] 56)) (zb+1+1+1) #[G AO order.length cO] 117:=
  ⟨⟨ay h1 _,au _ _ _ _ uG,mz.nil,cH.nil,h3.below (aj _ _) (ak _),h5.below (aj _ _),h4.alloc _,h6.alloc _,λ g h=>h.elim,λ g h=>h.elim,by have :=h1.size;omega,by have :=h6.lt;omega⟩,h2.alloc _⟩
 rw[uG];refine forget (λ V=>DX F0 w s.nodes s.leaves d0 order tb (zb+1+1) mb zb (G AO order.length cO) (G U 0 0) (G U 0 0) (λ _=>False) 0 0 V/\Bk V (zb+1+1+1) #[G AO order.length cO] 117) hT ?_;have hzI:order.length<=1099511627776:=ar;clear h1 h2 h3 h4 h5 h6 hT hcO hmO uG c1 l1;clear Y;rintro V ⟨hT,h2⟩;obtain⟨c1,l1⟩:=h2.cl0;have HT:=aG hT;clear hT h2;go_wp2_with fail;go_loopw [24] (λ i wr=>∃(j:Nat) (vk wM:R) (F:Nat->Prop),j<=order.length/\i=I J j/\DX F0 w s.nodes s.leaves d0 order tb (zb+1+1) mb zb (G AO order.length cO) vk wM F j j wr) (λ i _=>order.length - (intOf i).toNat)
 case atStart=>exact⟨0,_,_,_,ak _,rfl,HT.o⟩
 case round=>
  clear HT c1 l1;obtain⟨j,vk,wM,F,hj,rfl,hT⟩:=hrel;generalize wr=wA at *;by_cases hlt:j<order.length
  · as_aux_lemma=>
    have rE:(j:Int)<(order.length:Int):=ar;obtain⟨bO,oO,xn,hAO,hbO,_,Hxn,dO,fo1,fo2⟩:=(hT.ord.elems (ak _) (ah _)).fC (k:=j) (by rw[dy];exact hlt);obtain⟨n,nd,a1,a2,a3,a4,a5,a6⟩:=rG HH.q3 tU HO.o hlt
    have hxn:xn=(n:Int):=by
     have :=Hxn.o;unfold cV at this;rw[bQ,a1] at this;injection this with e
     exact e.symm
    subst hxn;subst hAO;have zZ:n<s.nodes.length:=HH.q6 n a2;obtain⟨bN,oN,A1,q1,A2,q2,T2,vI,e0,e1,e2,e3,hE1,ZC,hc1,hc2,f1,f2⟩:=mS HH.q4 a3;have Wb:=Uc HH.q1.nodes a3 T2 e1;have e0:=(hT.low.cell (p:=⟨bN,oN+n*4,U⟩) vI).trans e0;have e1:=(hT.low.cell (p:=⟨bN,oN+n*4+1,U⟩) vI).trans e1;have e2:=(hT.low.cell (p:=⟨bN,oN+n*4+2,U⟩) vI).trans e2;have e3:=(hT.low.cell (p:=⟨bN,oN+n*4+3,U⟩) vI).trans e3;have XW:(n:Int)<(s.nodes.length:Int):=ar;have pZ:=HH.q1.box.below hT.low;rw[T2] at pZ;have HAN:=aG T2;clear T2;obtain⟨cb,LM⟩:=pZ.cl0;have hbl:bN<wA.heap.size:=by have :=hT.low.size;omega
    have HD:=uF a1 a2 a3 a5 a6 a4;have HCR:=aG Wb;clear Wb;have HE:=uF hE1 ZC hc1 hc2 f1 f2;have HT:=aG hT;clear a1 a2 a3 a4 a5 a6 hE1 ZC hc1 hc2 f1 f2 hT pZ Hxn;go_upto_region 9 with fail;obtain⟨xb,J5⟩:∃x,wA.heap.size=x:=⟨_,rfl⟩;rw[J5];have hxw:w.heap.size<=xb:=by have :=HT.o.low.size;omega
    refine forget (λ V=>DX F0 w s.nodes s.leaves d0 order tb (zb+1+1) mb zb (G (O ⟨bO,oO,U⟩) order.length cO) vk wM F j j V/\Bk V xb #[I J nd.attr,G A1 nd.cJ.length q1,G A2 nd.kids.length q2,I J nd.leaf] 121/\aZ wA V) ⟨HT.o.keep (aj _ _),au _ _ _ _ J5,aj _ _⟩ ?_
    have hxT:∀g,g=xb->g≠tb/\g≠zb+1+1/\g≠mb/\g≠zb/\(G (O ⟨bO,oO,U⟩) order.length cO).ownBlock≠O g/\vk.ownBlock≠O g/\wM.ownBlock≠O g/\¬F g:=λ g hg=>by
     have h1:=HT.o.wN.lt;have h2:=HT.o.Ql.lt;have h3:=HT.o.num.lt;have h4:=HT.o.Kr.lt;refine⟨ar,ar,ar,ar,λ e=>?_,λ e=>?_,λ e=>?_,λ e=>?_⟩
     · have :=(HT.o.ord.lt g e).2;omega
     · have :=(HT.o.nodes.lt g e).2;omega
     · have :=(HT.o.leaves.lt g e).2;omega
     · have :=HT.o.flt g e;omega
    have HX:=dt hxw hxT;clear hxw hxT J5 HT e0 e1 e2 e3 cb LM dO hbl;rintro V ⟨hT,hx,hlV⟩;have HT:=fH hT hx hlV;obtain⟨cx,lx⟩:=hx.cl0;clear hT hx hlV;go_upto_if 38 with fail;go_cut [] (λ X'=>∃Yf,DX F0 w s.nodes s.leaves d0 order tb (zb+1+1) mb zb (G (O ⟨bO,oO,U⟩) order.length cO) vk Yf F j (j+1) X'/\Bk X' xb #[I J nd.attr,G A1 nd.cJ.length q1,G A2 nd.kids.length q2,I J (zY s.nodes order j).leaf] 121/\(∀g,Yf.ownBlock=O g->g≠xb)/\fits (zY s.nodes order j).leaf)
    case first =>
     by_cases hk:nd.kids=[]
     · as_aux_lemma=>
       have Ou:(nd.kids.length:Int)=0:=by rw[hk];rfl
       have vw:qU s.nodes n=true:=(lR HH.q3 HD.q3).2 hk
       have hlL:nd.leaf<s.leaves.length:=by
        rcases HH.q3.form n nd HD.q3 with⟨_,_,_,h⟩|⟨_,_,_,h,_⟩
        · exact h
        · rw[hk] at h;simp at h
       have aqV:(nd.leaf:Int)<(s.leaves.length:Int):=ar;obtain⟨AL3,cL3,ajV,ajW,ajX⟩:=HT.q1.leaves.form;subst ajV;obtain⟨bL,oL,dd,csd,Ui,Ge,_,hdd,_,I7,hcd⟩:=(HH.q5.keep HT.q1.low (ah _)).pick hlL;have ajZ:csd=dd.1:=I7;subst ajZ
       have hstep:kf s.nodes s.leaves d0 (order.take j)++[dd]=kf s.nodes s.leaves d0 (order.take (j+1)):=by rw[Gh HD.q1,if_pos vw,ji HD.q3,av,hdd];rfl
       have AD:(zY s.nodes order j).leaf=(kf s.nodes s.leaves d0 (order.take j)).length:=by rw[HD.q5,Ks];exact if_pos vw
       have hds:dd.1.toArray.size=16:=by rw[List.size_toArray];exact dd.2.1
       have pZ:=HH.q1.box.below HT.q1.low;rw[Ui] at pZ;have HAL:=aG Ui;clear Ui
       have hlT:(kf s.nodes s.leaves d0 (order.take j)).length<=1099511627776:=by
        rw[Ks];have h1:=ei (qU s.nodes) (order.take j);have h2:(order.take j).length<=order.length:=by rw[dh];omega
        omega
       obtain⟨tl,O3⟩:∃t,kf s.nodes s.leaves d0 (order.take j)=t:=⟨_,rfl⟩;obtain⟨ob,oJ⟩:∃o,(G AL3 (kf s.nodes s.leaves d0 (order.take j)).length cL3).ownBlock=o:=⟨_,rfl⟩
       have NI:∀g,ob=O g->∃C,Bk V g C 63:=λ g e=>by obtain⟨css,_,_,hown⟩:=HT.q1.leaves;exact gN hown (oJ.trans e)
       have abD:∀g,ob=O g->w.heap.size<=g:=λ g e=>(HT.q1.leaves.lt g (oJ.trans e)).1;have nt:¬ob=O tb:=λ e=>by obtain⟨C,hC⟩:=NI tb e;exact absurd (fK hC HT.q1.wN) cj
       have nx:¬ob=O xb:=λ e=>by obtain⟨C,hC⟩:=NI xb e;exact absurd (fK hC HT.q2) cj
       have nb:¬ob=O bb:=λ e=>by have h1:=abD bb e;have h2:=HH.q1.box.lt;omega
       have nl:¬ob=O bL:=λ e=>by have h1:=abD bL e;omega
       have lt1:=HT.q1.wN.lt;have V5:=pZ.lt;have bLV:bL<V.heap.size:=by have :=HT.q1.low.size;omega
       have xt:∀u i,(jP ob V u).cell? ⟨tb,i,U⟩=(#[vk,G AL3 tl.length cL3]:Array R)[i]?:=λ u i=>by rw[<-O3];exact(fE tb i lt1 nt).trans (HT.q1.wN.cell i)
       have xx:∀u i,(jP ob V u).cell? ⟨xb,i,U⟩=(#[I J nd.attr,G A1 nd.cJ.length q1,G A2 nd.kids.length q2,I J nd.leaf]:Array R)[i]?:=λ u i=>(fE xb i lx nx).trans (cx i);have xbb:∀u i,(jP ob V u).cell? ⟨bb,i,U⟩=(#[G AN s.nodes.length cN,G (O ⟨bL,oL,U⟩) s.leaves.length cL,.map (O kn),.map (O md),.map (O lf)]:Array R)[i]?:=λ u i=>(fE bb i V5 nb).trans (pZ.cell i);have HTL:=aG O3;have kW:Hid (Only (λ g=>ob=O g) V V.drew):=aG (Only.refl _ _).drew;have hlv:=HT.q1.leaves;rw[O3] at hstep AD hlv hlT oJ;have Ax:=yK hstep AD hds hlv oJ nt nx hcd;have HNL:=aG nl;have Wi:=aG hlT;clear hstep AD hds hlv oJ NI abD nt nx nb nl hcd hdd I7 pZ vw O3 hk cx ajW ajX;go_upto_region 10 with fail;refine ed (S:=λ w'=>∃u,w'=jP ob V u) [([0,1,2,3,4,5,6,7,8,9],[10,11]),([12],[])] 13 aV aV (dT kW.o) ?_;refine bT (λ K9 h9=>?_);simp only[aH,aU,aW,aa,ae]
       iterate 9 (go_big_quiet_step (fail))
       go_big_quiet_want
       refine kr _ _ rfl bL (oL+nd.leaf*16) rfl dd.1.toArray _ (λ w9 qh j9 u hu=>by obtain⟨u9,rfl⟩:=qh;rw[fE bL _ bLV HNL.o];exact Ax.t7 j9 u (by simpa using hu)) gH rfl (by rw[Ax.q3];kernel_rfl) ?_;go_simp;go_big_quiet_on
       refine wpQuiet_nil (h9 _ ?_);clear h9 K9;(refine cM (λ K9 h9=>?_);simp only[aW,aa,ae])
       refine jo (by rfl) _ 63 _ (by rfl) dd.1.toArray (by rfl) underlying54 (by rw[Ax.q3];kernel_rfl) (by rw[Ax.q3];decide) (by rw[Ax.q3];decide) (by rw[Ax.q3];kernel_rfl) ?_;show K9 _ _;go_simp;refine h9 _ _ (dT (kW.o.alloc _)) ?_;clear h9 K9;(refine cM (λ K9 h9=>?_);simp only[aW,aa,ae])
       refine en (T:=Hm) (base:=w.heap.size) (B:=0) (e:=63) (v:=G AL3 tl.length cL3) (qs:=tl) rfl _ _ _ rfl 112 underlying54 aV cj ?hone rfl (Ax.q4.below dE (ak _)) (O ⟨V.heap.size,0,U⟩) 1 1 [dd] [dd.1] rfl rfl rfl ?hr ?hsrc (by have :=Wi.o;unfold maxLen;omega) (by have :=Wi.o;omega) ?hbase (ak _) ?_
       case hone=>exact λ _ _ cs x h u hu=>x.2.2.1 u (by rw[<-(show cs=x.1 from h)];exact hu)
       case hr=>intro i h1 h2;obtain rfl:i=0:=by simpa using h1
                rfl
       case hsrc=>have :=gL ((Bk.new V dd.1.toArray 63).drew) 1;simpa using this
       case hbase=>have h1:=HT.q1.low.size;simp;omega
       intro A8 c8 w8 ew eM Aj TL;show K9 _ _;go_simp;have Am:Only (λ g=>ob=O g) V w8:=(kW.o.alloc _).grown Aj (λ g e=>.inl (Ax.q5.symm.trans e));have H8:=fH ew Am TL;refine h9 _ _ (dT Am) ?_;clear h9 K9 ew eM Aj TL Am;refine bU ?_;(refine bT (λ K9 h9=>?_);simp only[aH,aU,aW,aa,ae];(repeat(go_big_quiet_step (fail)));refine wpQuiet_nil (h9 _ ?_);clear h9 K9)
       refine bU (dF ?_);simp only[aW,aa,ae];have EL:=HT.q1.wN.only H8.q2 Ax.q6;have bx8:=HT.q2.only H8.q2 Ax.q7;have cq8:=EL.cell;have fq8:=EL.free 1;have lq8:=EL.lt;have cx8:=bx8.cell;have fx8:=bx8.free 3;have lx8:=bx8.lt;have aj1:xb≠tb:=(HX.t1 xb rfl).1;have S9:=dt EL bx8;have Ij:=Wi.o;clear EL bx8 xt xx xbb;go_wp2_with fail;go_meet;have ZG:=HT.q1.leaf (A9:=A8) (c9:=c8) (n9:=tl.length+1) (w9:=w8) (d:=dd) (by rw[HTL.o];exact H8.q1) (H8.q2.mono λ g e=>by rw[HTL.o];exact Ax.q5.trans e) (by rw[HTL.o];exact Ax.q1)
       have ZO:∀g,(G A8 (tl.length+1) c8).ownBlock=O g->g≠xb:=λ g hg e=>by obtain⟨css,_,_,hown⟩:=H8.q1;obtain⟨C,hC⟩:=gN hown hg;subst e;exact absurd (fK hC S9.t1) cj
       have hox:=(Only.refl (λ g=>g=xb) (w8.setCell ⟨tb,1,U⟩ (G A8 (tl.length+1) c8))).aS (p:=⟨xb,3,U⟩) (.inl rfl) (I J (tl.length:Int));have Xs:Only (λ g=>g=tb) w8 (w8.setCell ⟨tb,1,U⟩ (G A8 (tl.length+1) c8)):=(Only.refl (λ g=>g=tb) w8).aS (p:=⟨tb,1,U⟩) (.inl rfl) _;refine⟨G A8 (tl.length+1) c8,ZG.only hox (λ g hg=>by rw[hg];exact HX.q1) (λ g hg=>?_),?_,ZO,by rw[Ax.q2];unfold fits;omega⟩
       · obtain⟨k1,k2,k3,k4,k5,k6,k7,k8⟩:=HX.t1 g hg
         exact⟨k1,k2,k3,k4,k5,k6,λ e=>ZO g e hg,k8⟩
       · rw[Ax.q2]
         exact(S9.t1.only Xs aj1).aS 3 _
     · as_aux_lemma=>
       have Ou:¬(nd.kids.length:Int)=0:=by have :=iY.2 hk;omega
       have vw:qU s.nodes n=false:=by rw[Bool.eq_false_iff];exact λ e=>hk ((lR HH.q3 HD.q3).1 e)
       have AD:(zY s.nodes order j).leaf=nd.leaf:=by rw[HD.q5];show(if qU s.nodes n then _ else _)=_;rw[vw];rfl
       have hstep:kf s.nodes s.leaves d0 (order.take (j+1))=kf s.nodes s.leaves d0 (order.take j):=by rw[Gh HD.q1,vw];simp
       have Ax:=dt AD hstep;clear AD hstep vw hk;go_wp2_with fail;go_meet;refine⟨wM,⟨HT.q1.low,HT.q1.wN,HT.q1.nodes,by rw[Ax.t1];exact HT.q1.leaves,HT.q1.ord,HT.q1.num,HT.q1.Ql,HT.q1.Kr,HT.q1.ff,HT.q1.gf,HT.q1.Ue,HT.q1.tbg⟩,by rw[Ax.q1];exact HT.q2,λ g hg e=>(HX.t1 g e).2.2.2.2.2.2.1 hg,by rw[Ax.q1];exact HE.t5⟩
    case rest=>
    obtain⟨Z,hZ⟩:∃Z,Z=wc:=⟨_,rfl⟩;rw[<-hZ] at hcut⊢;obtain⟨Yf,hT,hx,ZO,abE⟩:=hcut;obtain⟨ZK,abF⟩:∃l,(zY s.nodes order j).leaf=l:=⟨_,rfl⟩;rw[abF] at hx abE;have Ax:=dt abF abE;clear hZ cx lx abF abE HT;obtain⟨cx,lx⟩:=hx.cl0;have fx:=hx.free 2;have HT:=fH hT hx ZO;clear hT hx ZO;go_upto_region 14 with fail;have hox:=(Only.refl (λ g=>g=xb) Z).aS (p:=⟨xb,2,U⟩) (.inl rfl) (G U 0 0);refine forget (λ V2=>DX F0 w s.nodes s.leaves d0 order tb (zb+1+1) mb zb (G (O ⟨bO,oO,U⟩) order.length cO) vk Yf F j (j+1) V2/\Bk V2 xb #[I J nd.attr,G A1 nd.cJ.length q1,G U 0 0,I J ZK] 121) ⟨HT.q1.only hox (λ g hg=>by rw[hg];exact HX.q1) (λ g hg=>?_),HT.q2.aS 2 _⟩ ?_
    · obtain⟨k1,k2,k3,k4,k5,k6,k7,k8⟩:=HX.t1 g hg
      exact⟨k1,k2,k3,k4,k5,k6,λ e=>HT.t2 g e hg,k8⟩
    have ZO:=HT.t2;clear hox HT cx lx fx;rintro V2 ⟨hT,hx⟩;have hkb:nd.kids.length<=9223372036854775807:=by have :=HE.q4;unfold maxLen at this;omega
    have E1:=fH hT hx ZO
    have hXT:∀(vK:R)(zs:List Int)(X':agb),cH dr 3 X' V2.heap.size 0 vK zs->∀g,(vK.ownBlock=O g\/g=xb)->w.heap.size<=g/\(g≠tb/\g≠zb+1+1/\g≠mb/\g≠zb/\(G (O ⟨bO,oO,U⟩) order.length cO).ownBlock≠O g/\vk.ownBlock≠O g/\Yf.ownBlock≠O g/\¬F g):=λ vK zs X' hv g hg=>by
     rcases hg with hg|hg
     · have h0:=(hv.lt g hg).1
       have h1:=E1.q1.wN.lt;have h2:=E1.q1.Ql.lt;have h3:=E1.q1.num.lt;have h4:=E1.q1.Kr.lt;have h5:=E1.q1.low.size;refine⟨ar,ar,ar,ar,ar,λ e=>?_,λ e=>?_,λ e=>?_,λ e=>?_⟩
       · have :=(E1.q1.ord.lt g e).2;omega
       · have :=(E1.q1.nodes.lt g e).2;omega
       · have :=(E1.q1.leaves.lt g e).2;omega
       · have :=E1.q1.flt g e;omega
     · obtain⟨k1,k2,k3,k4,k5,k6,k7,k8⟩:=HX.t1 g hg
       exact⟨by rw[hg];exact HX.q1,k1,k2,k3,k4,k5,k6,λ e=>E1.t2 g e hg,k8⟩
    have HXT:=aG hXT;clear hT hx ZO hXT;go_wp2_with fail;go_loopw [62] (λ i wr=>∃(m:Nat) (vK:R),m<=nd.kids.length/\i=I J m/\DX F0 w s.nodes s.leaves d0 order tb (zb+1+1) mb zb (G (O ⟨bO,oO,U⟩) order.length cO) vk Yf F j (j+1) wr/\Bk wr xb #[I J nd.attr,G A1 nd.cJ.length q1,vK,I J ZK] 121/\cH dr 3 wr V2.heap.size 0 vK (cV ((nd.kids.take m).map λ c=>order.idxOf c))/\V2.heap.size<=wr.heap.size) (λ i _=>nd.kids.length - (intOf i).toNat)
    case atStart=>exact⟨0,_,ak _,rfl,E1.q1,E1.q2,cH.nil,ah _⟩
    case round=>
     obtain⟨m,vK,hm,rfl,hT,hx,hK,hz2⟩:=hrel;generalize wr=wB at *;by_cases afh:m<nd.kids.length
     · as_aux_lemma=>
       have hml:(m:Int)<(nd.kids.length:Int):=ar;obtain⟨bk,ok,xk,hAk,pX,_,Oq,dx,g1,g2⟩:=(HE.q2.keep hT.low (ah _)).fC (k:=m) (by rw[dy];exact afh);obtain⟨c,hc⟩:∃c,nd.kids[m]?=O c:=⟨_,af afh⟩
       have XY:xk=(c:Int):=by
        have :=Oq.o;unfold cV at this;rw[bQ,hc] at this;injection this with e
        exact e.symm
       subst XY;subst hAk;have hbl:bk<wB.heap.size:=by have :=hT.low.size;omega
       have hcm:c∈order:=HH.t6 n HD.q2 c (by rw[HD.q4];exact az hc);have hnf:(yw order c).getD 0=(order.idxOf c:Int):=by unfold yw;rw[if_pos hcm];rfl
       have Ob:order.idxOf c<order.length:=cW hcm;have Kj:c<s.nodes.length:=HH.q6 c hcm;have hkey:=XU (n:=c) ar;obtain⟨AK,cK,T9,hcK,Qj⟩:=hK.form;rw[dy,bB,dh,Nat.min_eq_left hm] at T9 hcK;subst T9;obtain⟨kz,Yj⟩:∃z,cV ((nd.kids.take m).map λ c=>order.idxOf c)=z:=⟨_,rfl⟩;have kq:kz.length=m:=by rw[<-Yj,dy,bB,dh];omega
       have hst:cV ((nd.kids.take (m+1)).map λ c=>order.idxOf c)=kz++[(order.idxOf c:Int)]:=by rw[<-Yj,bu,hc];simp[cV]
       rw[Yj] at hK;have ug:m<=1000000001:=by have :=MD HH.q3 HD.q3;omega
       obtain⟨cx,lx⟩:=hx.cl0;obtain⟨cp,lp⟩:=hT.Ql.cl0;have HR:=yJ hT hx hK hnf hkey kq hst;have HIX:=dt Ob ug;clear hT hx hK hnf hkey kq hst Yj hc Oq hcm Ob hcK Qj ug
       go_wp2_with (first
        |(at_lookup;refine Dq rfl _ _ _ rfl 3 3 uA tF aJ aV rfl HR.q1.num _ c rfl HR.q5 ?_;rw[HR.q4])
        |(at_builtin;go_loud (refine gM rfl _ _ rfl AK _ cK rfl kz HR.q6 (HR.q3.below dE (ak _)) _ rfl (order.idxOf c:Int) (Bk.new _ _ _) (by have :=HIX.q1;unfold fits;omega) (by have :=HIX.t1;have :=HR.q6;omega) gW ?_);intro A9 c9 w9 iO kH kT;have mB:Only (λ g=>(G AK m cK).ownBlock=O g) wB w9:=((Only.refl _ wB).alloc _).trans kH;have bq:=HR.q2.only mB (λ e=>iT HR.q3 HR.q2 cj xb e rfl);have cq:=bq.cell;have fq:=bq.free 2;have lq:=bq.lt;have H9:=iM iO mB kT bq;clear iO kH mB kT bq))
       go_roundw
       case rel=>have hXT:=HXT.o (G AK m cK) kz wB HR.q3;have ho:Only (λ g=>(G AK m cK).ownBlock=O g\/g=xb) wB (w9.setCell ⟨xb,2,U⟩ (G A9 (m+1) c9)):=(H9.q2.mono λ g e=>.inl e).aS (p:=⟨xb,2,U⟩) (.inl (.inr rfl)) _;have Mz:Only (λ g=>g=xb) w9 (w9.setCell ⟨xb,2,U⟩ (G A9 (m+1) c9)):=(Only.refl (λ g=>g=xb) w9).aS (p:=⟨xb,2,U⟩) (.inl rfl) _;refine⟨m+1,G A9 (m+1) c9,ar,gC,HR.q1.only ho (λ g hg=>(hXT g hg).1) (λ g hg=>(hXT g hg).2),H9.t3.aS 2 _,?_,by have :=ho.size;omega⟩;rw[HR.t6];exact H9.q1.only Mz (λ _ _=>ak _) (ak _) (iT H9.q1 H9.t3 cj)
       case measure=>simp[intOf];omega
     · as_aux_lemma=>
       obtain rfl:m=nd.kids.length:=ar;rw[aX] at hK;obtain⟨AK,cK,T9,hcK,Qj⟩:=hK.form;rw[dy,bB] at T9 hcK;subst T9;obtain⟨A2',c2',hv2,afi,aj3⟩:=hT.nodes.form;rw[bB,dh,jO,Nat.min_eq_left hj] at hv2 afi;subst hv2;have hDa:(zY s.nodes order j).attr=nd.attr:=by rw[HD.q5]
       have hDc:(zY s.nodes order j).cJ=nd.cJ:=by rw[HD.q5]
       have hDk:(zY s.nodes order j).kids=nd.kids.map λ c=>order.idxOf c:=by rw[HD.q5]
       have Mt:=Uf (aaf:=F0) (F:=F) (X:=wB) (aak:=zY s.nodes order j) (A1:=A1) (q1:=q1) (AK:=AK) (nK:=nd.kids.length) (cK:=cK) (base:=V2.heap.size) (by rw[hDc];exact HCR.o.below hT.low) (by rw[hDk];exact hK) (by rw[hDa];exact HE.q5) (by rw[Ax.q1];exact Ax.t1) hT.flt;rw[hDa,hDc,Ax.q1] at Mt;obtain⟨F',hF'⟩:∃F':Nat->Prop,F'=λ g=>F g\/F0 g\/(G AK nd.kids.length cK).ownBlock=O g:=⟨_,rfl⟩;rw[<-hF'] at Mt
       have hG':∀g,F' g->F0 g\/w.heap.size<=g:=λ g hg=>by
        rw[hF'] at hg;rcases hg with h|h|h
        · exact hT.gf g h
        · exact .inl h
        · have h1:=(hK.lt g h).1
          have h2:=E1.q1.low.size;exact .inr ar
       have hints:∀g,F' g->(g<w.heap.size\/∃C,Bk wB g C 3):=λ g hg=>by
        rw[hF'] at hg;rcases hg with h|h|h
        · exact hT.ff g h
        · exact .inl (HCR.q2 g h)
        · exact .inr (uw hK h)
       have Kk:∀g,F' g->g<wB.heap.size:=λ g hg=>by
        rcases hints g hg with h|⟨C,hC⟩
        · exact dI h hT.low.size
        · exact hC.lt
       have T8:=hT.nodes.mono (F':=F') (λ g h=>by rw[hF'];exact .inl h) Kk
       have hnv:∀g,(G A2' j c2').ownBlock=O g->¬F' g:=λ g hg hf=>by
        obtain⟨C,hC⟩:=hT.nodes.typed hg;rcases hints g hf with h|⟨C',Jz⟩
        · have :=(hT.nodes.lt g hg).1;omega
        · exact absurd (fK Jz hC) cj
       have Fh:(((om s.nodes order).take j).map pA).length=j:=by rw[bB,dh,jO];omega
       have hst:((om s.nodes order).take (j+1)).map pA=((om s.nodes order).take j).map pA++[pA (zY s.nodes order j)]:=by rw[bu,su hlt];simp
       obtain⟨cx,lx⟩:=hx.cl0;obtain⟨ct,lt1⟩:=hT.wN.cl0;have hj2:j<=1099511627776:=ar;have HR:=yK hT T8 hnv Mt Kk hints Fh hst;have FH:=hT.low.size;have HG':=aG hG';clear hG';clear hT hx hK T8 hnv Mt Kk hints Fh hst hF' hDa hDc hDk hcK Qj afi aj3;go_wp2_with (at_builtin;go_loud (refine ym (T:=vH) (F:=F') (base:=w.heap.size) (e:=121) (v:=G A2' j c2') (xs:=((om s.nodes order).take j).map pA) rfl _ _ _ rfl 64 underlying53 aV cj rfl (HR.q2.below dE) HR.q3 (λ g hg=>by have :=HR.q5 g hg;simp;omega) (O ⟨wB.heap.size,0,U⟩) 1 (#[I J nd.attr,G A1 nd.cJ.length q1,G AK nd.kids.length cK,I J ZK]:Array R).toList (pA (zY s.nodes order j)) rfl (HR.q4.below dE) (by have :=gL (Bk.new wB #[I J nd.attr,G A1 nd.cJ.length q1,G AK nd.kids.length cK,I J ZK] 121) 1;simpa using this) (by rw[HR.q7];unfold maxLen;omega) (by rw[HR.q7];omega) gW ?_);rw[HR.q7];intro A9 c9 w9 iO kY kH hf9 kT;have mB:Only (λ g=>(G A2' j c2').ownBlock=O g) wB w9:=((Only.refl _ wB).alloc _).trans kH;have bq:=HR.q1.wN.only mB (λ e=>by obtain⟨C,hC⟩:=HR.q1.nodes.typed e;exact absurd (fK hC HR.q1.wN) cj);have cq:=bq.cell;have fq:=bq.free 0;have lq:=bq.lt;have H9:=dt iO mB;clear iO kY kH mB hf9 kT bq);go_roundw
       case rel=>have Gf:=H9.q1;rw[<-HR.t7] at Gf;exact⟨j+1,G A9 (j+1) c9,Yf,F',ar,gC,HR.q1.node Gf H9.t1 HR.q6 HG'.o⟩
       case measure=>simp[intOf];omega
  · as_aux_lemma=>
    obtain rfl:j=order.length:=ar;obtain⟨A2,c2,hv2,hc2,tH⟩:=hT.nodes.form;obtain⟨A3,c3,hv3,hc3,Aq⟩:=hT.leaves.form;rw[bB,cU (by rw[jO];exact ah _),jO] at hv2 hc2;rw[aX] at hv3 hc3;subst hv2;subst hv3;obtain⟨ct,lt'⟩:=hT.wN.cl0;obtain⟨cg,lg⟩:=hT.Kr.cl0;have fg:=hT.Kr.free 0;have fg1:=hT.Kr.free 1;have HT:=aG hT;clear hT;go_wp2_with fail;have hb:=((HT.o.Kr.aS 0 (G A2 order.length c2)).aS 1 (G A3 (kf s.nodes s.leaves d0 order).length c3));have afj:w.heap.size<=zb:=hzw;have ho:Only (λ g=>g=zb) wA ((wA.setCell ⟨zb,0,U⟩ (G A2 order.length c2)).setCell ⟨zb,1,U⟩ (G A3 (kf s.nodes s.leaves d0 order).length c3)):=((Only.refl (λ g=>g=zb) wA).aS (p:=⟨zb,0,U⟩) (.inl rfl) _).aS (p:=⟨zb,1,U⟩) (.inl rfl) _;have hfz:¬F zb:=HT.o.fne HT.o.Kr afj cj
    have JC:=(HT.o.nodes.only ho (λ g hg hf=>hfz (by rw[<-hg];exact hf)) (λ g hg e=>by obtain⟨C,hC⟩:=HT.o.nodes.typed hg;subst e;exact absurd (fK hC HT.o.Kr) cj))
    have hl2:=HT.o.leaves.only ho (λ _ _=>ak _) (ak _) (λ g hg e=>by obtain⟨css,_,_,hown⟩:=HT.o.leaves;obtain⟨C,hC⟩:=gN hown hg;subst e;exact absurd (fK hC HT.o.Kr) cj)
    rw[cU (by rw[jO];exact ah _)] at JC;rw[aX] at hl2;exact bodyPost_ret (v:=.agg #[G A2 order.length c2,G A3 (kf s.nodes s.leaves d0 order).length c3]) (results_cell_row rfl _ _ zb 56 #[G A2 order.length c2,G A3 (kf s.nodes s.leaves d0 order).length c3] (0,0) _ rfl hb underlying56 rfl aV) rfl ⟨A2,c2,A3,c3,rfl,HT.o.low.trans (ho.aK (λ g hg=>by rw[hg];exact afj) HT.o.low.size),⟨F,JC,λ g hg=>(HT.o.gf g hg).imp (λ h=>(HH.q2 g).2 (.inr (.inr (.inr (.inr (.inr (.inr h))))))) id⟩,hl2,⟨hc2,tH⟩,hc3,Aq⟩
end
section
open Go.RowKit
set_option linter.unusedSectionVars false
def Wj(nd:Nd):Bool:=nd.kids.isEmpty
def lN(T:List Nd)(j:Nat):Nat:=((T.take j).filter Wj).length
theorem zK{T:List Nd}{j:Nat}{nd:Nd}(h:T[j]?=O nd):lN T (j+1)=lN T j+if Wj nd then 1 else 0:=by
 unfold lN;rw[bu,h,gQ,ax];congr 1
 by_cases hl:Wj nd
 · simp[hl]
 · simp[hl]
section
variable{δ:Type}(Z:List Zn)(lim:Zn)(eE:Fc->δ)
structure mU(T:List Nd)(Lv:List δ):Prop where
 form:∀(j:Nat)(nd:Nd),T[j]?=O nd->tV lim T T.length Lv.length nd
 nodup:T.Nodup
 walk:mX T 12 [] 0=List.range T.length
 leaf:∀(j:Nat)(nd:Nd),T[j]?=O nd->nd.kids=[]->nd.leaf=lN T j
 leaves:Lv.length=lN T T.length
 dec:Lv.Nodup
 pos:0<T.length
 le:T.length<=20000
 sem:∀g,ik lim g->Sem T Lv 0 g (eE g)
 cJ:∀nd∈T,∀c∈nd.cJ,c∈mA Z lim nd.attr
end
section
variable{δ:Type}[DecidableEq δ]{Z:List Zn}{lim:Zn}{eE:Fc->δ}
theorem DY{N:List Nd}{L:List δ}{root:Nat}{order:List Nat}(h:BW lim N L)(hr:root<N.length)(ho:order=jm N root):∀j,j<=order.length->lN (om N order) j=((order.take j).filter (qU N)).length
 |0,_=>by simp[lN]
 |j+1,hj=>by
  have hlt:j<order.length:=ar;have h1:=DY h hr ho j ar;rw[zK (su hlt),h1];obtain⟨n,nd,a1,a2,a3,a4,a5,a6⟩:=rG h hr ho hlt;rw[bu,a1,gQ,ax];congr 1
  have e:Wj (zY N order j)=qU N n:=by have :=(Cv h hr ho hlt).1;rw[a4] at this;unfold Wj;rw[jc,List.isEmpty_iff];exact this
  rw[e];by_cases hl:qU N n
  · simp[hl]
  · simp[hl]
theorem Uj{s:Bs δ}(h:zw Z lim eE s)(hv:VB Z lim s)(d0:δ){root:Nat}(hm:Made Z lim eE s.nodes s.leaves (List.range Z.length) 0 root)(hs:s.nodes.length<=20000){order:List Nat}(ho:order=jm s.nodes root):
 mU Z lim eE (om s.nodes order) (kf s.nodes s.leaves d0 order):=by
 have hr:=hm.1;have hlt:∀n∈order,n<s.nodes.length:=by rw[ho];exact tW h.ok hr
 have Ri:order.length<=s.nodes.length:=pj _ _ (by rw[ho];exact lZ _ _) hlt
 have hat:∀{j:Nat}{nd:Nd},(om s.nodes order)[j]?=O nd->j<order.length/\nd=zY s.nodes order j:=λ{j nd} hj=>by have h1:=(ai.1 hj).1;rw[jO] at h1;rw[su h1] at hj;exact⟨h1,(aO hj).symm⟩
 have xV:(kf s.nodes s.leaves d0 order).length=(order.filter (qU s.nodes)).length:=by simp[kf]
 refine⟨λ j nd hj=>?_,Jd h.ok hr ho,?_,λ j nd hj hk=>?_,?_,(Ba h.ok hr ho d0).1,?_,by rw[jO];omega,λ g hg=>?_,λ nd hn c hc=>?_⟩
 · obtain⟨h1,rfl⟩:=hat hj
   rw[jO,xV];exact Lt h.ok hr ho h1
 · rw[jO]
   exact Lu h.ok ho
 · obtain⟨h1,rfl⟩:=hat hj
   have h2:=Cv h.ok hr ho h1;rw[DY h.ok hr ho j ar];exact h2.2 (h2.1.1 hk)
 · rw[xV,jO,DY h.ok hr ho order.length (ah _),aX]
 · rw[jO]
   have :root∈order:=by rw[ho];exact BV _ cj [] root
   exact List.length_pos_of_mem this
 · exact O9 h.ok hr ho d0 (hm.2.2 g hg (tS Z g))
 · obtain⟨j,hj,rfl⟩:=bo.1 hn
   obtain⟨h1,e⟩:=hat (af hj);obtain⟨n,nd,a1,a2,a3,a4,a5,a6⟩:=rG h.ok hr ho h1;rw[e,a6] at hc⊢;exact hv.cJ nd (az a3) c hc
end
end
end Go.Proofs.YtbcpcneadjcmlaaGreatDoor
