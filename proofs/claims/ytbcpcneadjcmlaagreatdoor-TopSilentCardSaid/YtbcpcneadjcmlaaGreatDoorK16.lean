import Derived.Test.YtbcpcneadjcmlaaGreatDoorK15
namespace Go.Proofs.YtbcpcneadjcmlaaGreatDoor
open Go.Proofs.Tryz
set_option maxRecDepth 100000
set_option maxHeartbeats 16000000
set_option linter.unusedVariables false
set_option linter.unusedSimpArgs false
open Value renaming int→I,slice→G,pointer→M
open IntKind renaming i64→J
open Option renaming some→O,none→U
open Go renaming Value→R,World→agb
section
open Go.RowKit Go.Maps
attribute [local go_sem] aQ aC bW
structure En where
 W0:agb
 pb:Nat
 vb:Nat
 lb:Nat
 zb:Nat
 fb:Nat
 bb:Nat
 base:Nat
 A:dB
 cap:Nat
 AZ:dB
 abf:Nat
 rs:List Rl
def En.fnV(E:En):R:=.func (.func 36) #[] #[M (O ⟨E.pb,0,U⟩),M (O ⟨E.vb,0,U⟩),M (O ⟨E.lb,0,U⟩),M (O ⟨E.zb,0,U⟩),M (O ⟨E.fb,0,U⟩)]
def En.blk(E:En)(g:Nat):Prop:=g<E.W0.heap.size\/g=E.pb\/g=E.vb\/g=E.lb\/g=E.zb\/g=E.fb\/∃off,E.AZ=O ⟨g,off,U⟩
structure En.ok(E:En)(X:agb):Prop where
 old:Below E.W0.heap.size E.W0 X
 tabs:nu E.W0
 rules:cG se E.W0 E.W0.heap.size E.A E.rs
 few:E.rs.length<=200
 ZE:Bk X E.pb #[G E.A E.rs.length E.cap] 38
 var:Bk X E.vb #[M (O ⟨E.bb,0,U⟩)] 111
 lim:Bk X E.lb (jY aP) 90
 zon:Bk X E.zb #[G E.AZ (bc E.rs).length E.abf] 44
 zel:ic nM X E.AZ (bc E.rs)
 fn:Bk X E.fb #[E.fnV] 116
 wL:(bc E.rs).length<=100000
 val:∀z∈bc E.rs,zG z=true
 zlt:∀g off,E.AZ=O ⟨g,off,U⟩->g<X.heap.size
 base:E.base<=X.heap.size
theorem TU{α:Type}{T:Ty α}(n:Nat)(hT:Flat T):Flat (Ww n T):=λ⟨h1,h2,h3⟩=>⟨h1,h2,λ i hi=>hT (h3 i hi)⟩
theorem Oi:Flat nM:=TU 10 (rA iP iP)
theorem cG.Oj{α:Type}{T:Ty α}{S:Nat->Prop}{w w':agb}{A:dB}{xs:List α}(h:ic T w A xs)(hT:Flat T)(ho:Only S w w')(hn:∀g off,A=O ⟨g,off,.none⟩->¬S g):ic T w' A xs:=λ i hi=>by obtain⟨b,off,cs,hA,hb,hr,hc⟩:=h.only hT ho (ah _) hn i hi;have :=ho.size;exact⟨b,off,cs,hA,ar,hT hr,hc⟩
theorem En.ok.only{E:En}{X X':agb}{T:Nat->Prop}(h:E.ok X)(ho:Only T X X')(hT:∀g,T g->¬E.blk g):E.ok X':=by
 have hn:∀g,E.blk g->¬T g:=λ g h1 h2=>hT g h2 h1
 have hlt:∀g,T g->E.W0.heap.size<=g:=λ g hg=>by
  rcases eC g E.W0.heap.size with q|q
  · exact absurd (.inl q) (hT g hg)
  · exact q
 refine⟨h.old.trans (ho.aK hlt h.old.size),h.tabs,h.rules,h.few,h.ZE.only ho (hn _ (.inr (.inl rfl))),h.var.only ho (hn _ (.inr (.inr (.inl rfl)))),h.lim.only ho (hn _ (.inr (.inr (.inr (.inl rfl))))),h.zon.only ho (hn _ (.inr (.inr (.inr (.inr (.inl rfl)))))),?_,h.fn.only ho (hn _ (.inr (.inr (.inr (.inr (.inr (.inl rfl))))))),h.wL,h.val,λ g off e=>dI (h.zlt g off e) ho.size,bm h.base ho.size⟩;exact h.zel.Oj Oi ho (λ g off e=>hn g (.inr (.inr (.inr (.inr (.inr (.inr ⟨off,e⟩)))))))
theorem En.ok.below{E:En}{X X':agb}(h:E.ok X)(hb:aZ X X'):E.ok X':=h.only (T:=λ _=>False) (aw hb) (λ _ h=>h.elim)
theorem En.ok.blk{E:En}{X:agb}(h:E.ok X){g:Nat}(hg:E.blk g):g<X.heap.size:=by
 rcases hg with hg|rfl|rfl|rfl|rfl|rfl|⟨off,e⟩
 · have :=h.old.size;omega
 · exact h.ZE.lt
 · exact h.var.lt
 · exact h.lim.lt
 · exact h.zon.lt
 · exact h.fn.lt
 · exact h.zlt g off e
theorem En.ok.tab{E:En}{X:agb}(h:E.ok X):nu X:=h.tabs.below h.old
theorem En.ok.rl{E:En}{X:agb}(h:E.ok X):ic se X E.A E.rs:=h.rules.keep h.old h.old.size
def Sm(s:Bs Dk):Prop:=s.nodes.length<=1099511627776/\s.leaves.length<=1099511627776/\s.nk<=1099511627776/\s.nm<=1099511627776/\s.nl<=1099511627776
theorem Sm.back{a b:Bs Dk}{n:Nat}(h:Sm b)(hg:Gr n a b):Sm a:=by obtain⟨h1,h2,h3,h4,h5⟩:=h;have g1:=hg.le;obtain⟨L,e,_⟩:=hg.leaves;rw[e,ax] at h2;have :=hg.nk;have :=hg.nm;have :=hg.nl;exact⟨ar,ar,ar,ar,ar⟩
def En.yv(E:En)(k:Nat):Prop:=∀(live:List Nat)(f:Fc)(s:Bs Dk)(S:Nat->Prop)(w:agb)(AL:dB)(cL:Nat)(a:Int),a=((10 - k:Nat):Int)->
 E.ok w->VB (bc E.rs) aP s->xC w E.base E.bb S s->(∀g,S g->¬E.blk g)->ic dr w AL (cV live)->(∀g off,AL=O ⟨g,off,U⟩->¬S g)->(live.length<=cL/\cL<=maxLen)->live.length<=100000->(∀z∈live,z<(bc E.rs).length)->f.length=10->(∀x∈f,fits x)->
 Sm (eZ (bc E.rs) aP (iK E.rs) k live f s).1->
 Calls prog 36 #[I J a,G AL live.length cL,.agg (iw f),M (O ⟨E.pb,0,U⟩),M (O ⟨E.vb,0,U⟩),M (O ⟨E.lb,0,U⟩),M (O ⟨E.zb,0,U⟩),M (O ⟨E.fb,0,U⟩)] w λ e w'=>
  e=.returned (I J (eZ (bc E.rs) aP (iK E.rs) k live f s).2)/\
  ∃S',xC w' E.base E.bb S' (eZ (bc E.rs) aP (iK E.rs) k live f s).1/\Only S w w'/\∀g,S' g->S g\/w.heap.size<=g
theorem zJ{w:agb}{B:Nat}{A:dB}{rs:List Rl}(h:cG se w B A rs):∀r∈rs,Hu r:=λ r hr=>by obtain⟨i,hi,rfl⟩:=bo.1 hr;obtain⟨b,off,cs,hA,hb,⟨c1,r1,e1,⟨_,h1⟩,⟨c2,r2,e2,⟨_,h2⟩,⟨c3,r3,e3,⟨AZ,zc,_,h3,h4,h5⟩,⟨c4,r4,e4,⟨_,h6⟩,⟨c5,r5,e5,⟨a1,b1,_,⟨_,p1⟩,⟨_,p2⟩⟩,⟨a2,b2,_,⟨_,p3⟩,⟨_,p4⟩⟩⟩⟩⟩⟩⟩,hc⟩:=h i hi;exact⟨h6,⟨p1,p2⟩,⟨p3,p4⟩⟩
structure My(E:En)(w:agb)(s:Bs Dk)(S:Nat->Prop)(tb vb bb kn lf:Nat)(F:Nat->Prop)(vN vL:R)(md:Nat)(X:agb):Prop where
 at_:TJ F X E.base bb vN vL kn md lf s
 aS:∀g,S g↔bS F bb vN vL kn md lf g
 var:Bk X vb #[M (O ⟨bb,0,U⟩)] 111
 only :Only S w X
 tb:w.heap.size<=tb
theorem En.leaf(E:En):E.yv 0:=by
 intro live f s S w AL cL a ha hE EZ hB hS hl hlS Ol hl2 JH hf qd hsm;have hD0:(iK E.rs f).1=(vG (dR f E.rs E.rs.length)).toList:=wK (zJ hE.rules) (by have :=hE.few;omega);obtain⟨d,hd⟩:∃d,iK E.rs f=d:=⟨_,rfl⟩;have hb0:eZ (bc E.rs) aP (iK E.rs) 0 live f s=j7 s d:=by show j7 s (iK E.rs f)=_;rw[hd]
 rw[hb0] at hsm⊢;rw[hd] at hD0;obtain⟨al,tg,si,lim,price,fn,fd,tn,td,cn,cd,sn,sd,rn,rd,y,hdv⟩:∃al tg si lim price fn fd tn td cn cd sn sd rn rd y,vG (dR f E.rs E.rs.length)=#[.bool al,.bool tg,.bool si,I J lim,I J price,I J fn,I J fd,I J tn,I J td,I J cn,I J cd,I J sn,I J sd,I J rn,I J rd,I J y]:=⟨_,_,_,_,_,_,_,_,_,_,_,_,_,_,_,_,rfl⟩;have hdec:=λ(X:agb) (hX:aZ w X)=>pO E.A E.rs E.cap E.rs.length f X X.heap.size ((hE.below hX).rl) (ah _) rfl (by have :=hE.few;omega) hf;simp only[hdv,yq hf] at hdec;rw[hdv] at hD0;obtain⟨hp,hpl⟩:=hE.ZE.cl0;have wY:=yq hf;have HVB:=aG EZ;have HE:=lQ hE hB hS hsm hdec;clear EZ;have HD:=aG hD0;obtain⟨pb,oU⟩:∃pb,E.pb=pb:=⟨_,rfl⟩;obtain⟨vb,EZ⟩:∃vb,E.vb=vb:=⟨_,rfl⟩;obtain⟨lb,oy⟩:∃lb,E.lb=lb:=⟨_,rfl⟩;obtain⟨zb,hzb⟩:∃zb,E.zb=zb:=⟨_,rfl⟩;obtain⟨fb,qI⟩:∃fb,E.fb=fb:=⟨_,rfl⟩;obtain⟨bb,mN⟩:∃bb,E.bb=bb:=⟨_,rfl⟩;have HP:=fH oU EZ mN;rw[oU] at hp hpl⊢;rw[EZ,oy,hzb,qI,mN];have ha':a=10:=ar;subst ha';rw[wY];clear hE hB hS hsm hdec hD0 hl hlS hl2 JH qd hdv hb0 hd oU EZ oy hzb qI mN ha;go_enter func36,ntmps36;go_upto_region 3 with(go_at_call 16;refine(HE.t4 _ dE).mono ?_;rintro e w2 ⟨rfl,hb⟩;have Xr:=aG hb;clear hb);obtain⟨tb,uG⟩:∃tb,w2.heap.size=tb:=⟨_,rfl⟩;have hb2:aZ w w2:=aq dE Xr.o;rw[uG];refine forget (λ W=>aZ w W/\Bk W tb #[.bool al,.bool tg,.bool si,I J lim,I J price,I J fn,I J fd,I J tn,I J td,I J cn,I J cd,I J sn,I J sd,I J rn,I J rd,I J y] 63/\w.heap.size<=tb) ⟨ay hb2 _,au _ _ _ _ uG,by have :=hb2.size;omega⟩ ?_;clear hb2 uG Xr;clear w2;rintro W ⟨hW,pX,uG⟩;have hEW:=HE.q1.below hW;obtain⟨F,vN,vL,kn,md,lf,h0,hSW⟩:=HE.q2.below hW;rw[HP.t2] at h0 hSW;have TV:=hEW.var;rw[HP.q2,HP.t2] at TV;have H1:=yJ h0 hSW hEW hW pX uG TV
 have vB:keyOf prog 63 (.agg #[.bool al,.bool tg,.bool si,I J lim,I J price,I J fn,I J fd,I J tn,I J td,I J cn,I J cd,I J sn,I J sd,I J rn,I J rd,I J y])=O (yt d):=by have :=uv d;rw[HD.o] at this;exact this
 have We:=aG vB;obtain⟨cb,LM⟩:=h0.box.cl0;obtain⟨Ib,ld'⟩:=pX.cl0;obtain⟨cv,lv⟩:=TV.cl0;obtain⟨q0,hq0⟩:∃q,(mQ s.leaf d).getD 0=q:=⟨_,rfl⟩;obtain⟨q1,N3⟩:∃q,(mQ s.leaf d).isSome=q:=⟨_,rfl⟩;have HQ:=dt hq0 N3;clear h0 hSW hEW hW pX TV vB hq0 N3 uG;refine sH W [([0,1,2,3,4],[5]),([6,7,8,9,10],[])] (aA _ _) aV aV (λ u=>?_);(refine bT (λ K9 h9=>?_);simp only[aH,aU,aW,aa,ae];(repeat(go_big_quiet_step (fail)));refine wpQuiet_nil (h9 _ ?_);clear h9 K9)
 (refine cM (λ K9 h9=>?_);simp only[aW,aa,ae])
 refine kv (m:=s.nl) (f:=mQ s.leaf) rfl _ _ _ rfl 63 3 zI underlying113 aJ aV rfl (H1.q1.leaf.below (aT W u)) _ d rfl We.o ?_;rw[HQ.q1,HQ.t1];show K9 _ _;go_simp;refine h9 _ _ ⟨_,rfl⟩ ?_;clear h9 K9;refine bU ?_;(refine bT (λ K9 h9=>?_);simp only[aH,aU,aW,aa,ae];(repeat(go_big_quiet_step (fail)));refine wpQuiet_nil (h9 _ ?_);clear h9 K9)
 refine bU (dF ?_);have Sb:aZ W (ext W u):=aT W u;refine I9 (λ X=>My E w s S tb vb bb kn lf F vN vL md X/\Bk X tb #[.bool al,.bool tg,.bool si,I J lim,I J price,I J fn,I J fd,I J tn,I J td,I J cn,I J cd,I J sn,I J sd,I J rn,I J rd,I J y] 63) ⟨⟨H1.q1.only (T:=λ _=>False) (aw Sb) (λ _ h=>h.elim),H1.q2,H1.t6.below Sb,aw (aq H1.q4 Sb),H1.q6⟩,H1.q5.below Sb⟩ ?_;clear Sb cb LM Ib ld' cv lv H1;rintro X ⟨hI,hT⟩;have H1:=dt hI hT;clear hI hT;go_upto_if 47 with fail;go_cut [] (λ X'=>(∃S',xC X' E.base bb S' (jW s d)/\(∀g,S' g->S g\/w.heap.size<=g))/\Only S w X'/\Bk X' tb #[.bool al,.bool tg,.bool si,I J lim,I J price,I J fn,I J fd,I J tn,I J td,I J cn,I J cd,I J sn,I J sd,I J rn,I J rd,I J y] 63)
 case first =>
  rcases hk:s.leaf d with _|k
  · as_aux_lemma=>
    have hq:q1=false:=by rw[<-HQ.t1,uV,hk];rfl
    have Ax:Hid (jW s d= {s with leaves:=s.leaves++[d],leaf:=tL s.leaf d s.leaves.length,nl:=s.nl+1}):=aG (by unfold jW;rw[hk]);have HNS:Hid ((mQ s.leaf d).isSome=false):=aG (by rw[uV,hk];rfl);clear hk HQ;subst hq;obtain⟨AL',cL',hvL,Ol,hmL⟩:=H1.q1.at_.leaves.form;subst hvL;have Zp:=aG (HE.q4.back (Dm s d));have Rf:s.leaves.length<=1099511627776:=Zp.q2;obtain⟨cb,LM⟩:=H1.q1.at_.box.cl0;obtain⟨cv,lv⟩:=H1.q1.var.cl0;obtain⟨Ib,ld'⟩:=H1.t1.cl0;go_upto_region 5 with fail;refine ed (S:=λ w'=>∃u,w'=ext X u) [([0,1,2,3,4,5,6,7,8,9],[])] 10 aV aV (by obtain⟨u,e⟩:=dV ((aA X.heap.size X).drew);exact⟨u,e.symm⟩) ?_;(refine bT (λ K9 h9=>?_);simp only[aH,aU,aW,aa,ae];(repeat(go_big_quiet_step (fail)));refine wpQuiet_nil (h9 _ ?_);clear h9 K9)
    refine bU (dF ?_);simp only[aW,aa,ae];go_upto_region 6 with(at_mapUpdate;refine qH (m:=s.nl) (f:=mQ s.leaf) rfl _ _ _ _ rfl 63 3 zI underlying113 aJ Ki (by have :=Zp.t4;unfold maxLen;omega) rfl (H1.q1.at_.leaf.below (aA _ _).drew) _ d rfl We.o (s.leaves.length:Int) (by simp[Lit.wf,IntKind.min,IntKind.max,IntKind.signed,IntKind.bits];omega) gC ?_;intro w3 Aq ru;have HZ3:=dt Aq ru;clear Aq ru);have Qa:=HE.q2.lt
    have hY:My E w {s with leaf:=tL s.leaf d s.leaves.length,nl:=s.nl+1} S tb vb bb kn lf F vN (G AL' s.leaves.length cL') md w3/\Bk w3 tb #[.bool al,.bool tg,.bool si,I J lim,I J price,I J fn,I J fd,I J tn,I J td,I J cn,I J cd,I J sn,I J sd,I J rn,I J rd,I J y] 63:=by
     have ho:Only (λ g=>g=lf) X w3:=(Only.refl (λ g=>g=lf) X).drew.trans HZ3.t1;have hap:=H1.q1.at_.apart;have hm:=HZ3.q1;rw[HNS.o] at hm;refine⟨⟨⟨H1.q1.at_.box.only ho hap.2.2.1.2.2,H1.q1.at_.nodes.only ho (λ g hg hf=>(hap.2.2.2 g hf).2.2.2 hg) (λ g hg=>(hap.1 g hg).2.2.2.1),H1.q1.at_.leaves.only ho (λ _ _=>ak _) (ak _) (λ g hg=>(hap.2.1 g hg).2.2.2.1),H1.q1.at_.known.only ho (λ e=>H1.q1.at_.Rk.2.1 e),H1.q1.at_.made.only ho (λ e=>H1.q1.at_.Rk.2.2 e),?_,λ g hg=>?_,H1.q1.at_.Rk⟩,H1.q1.aS,?_,H1.q1.only.trans' ho (λ g hg=>.inl ((H1.q1.aS g).2 (.inr (.inr (.inr (.inr (.inr (.inl hg)))))))),H1.q1.tb⟩,H1.t1.only ho (λ e=>?_)⟩
     · have h':jQ yt prog 63 3 w3 lf (s.nl+1) (Dp (mQ s.leaf) d (s.leaves.length:Int)):=hm
       rw[<-DA] at h';exact h'
     · obtain⟨C,hC⟩:=H1.q1.at_.ints g hg
       exact⟨C,hC.only ho (hap.2.2.2 g hg).2.2.2⟩
     · exact H1.q1.var.only ho (λ e=>H1.q1.at_.leaf.gY (by rw[<-e];exact H1.q1.var))
     · have :=Qa lf ((H1.q1.aS lf).2 (.inr (.inr (.inr (.inr (.inr (.inl rfl)))))))
       have :=H1.q1.tb;omega
    refine forget (λ Y=>My E w {s with leaf:=tL s.leaf d s.leaves.length,nl:=s.nl+1} S tb vb bb kn lf F vN (G AL' s.leaves.length cL') md Y/\Bk Y tb #[.bool al,.bool tg,.bool si,I J lim,I J price,I J fn,I J fd,I J tn,I J td,I J cn,I J cd,I J sn,I J sd,I J rn,I J rd,I J y] 63) hY ?_;clear hY HZ3 H1 cb LM cv lv Ib ld';clear w3;rintro Y ⟨hI,hT⟩;have H1:=dt hI hT;obtain⟨ob,oJ⟩:∃o,(G AL' s.leaves.length cL').ownBlock=o:=⟨_,rfl⟩;have hap:=hI.at_.apart;have nb:¬ob=O bb:=λ e=>(hap.2.1 bb (oJ.trans e)).1 rfl
    have nv:¬ob=O vb:=λ e=>by obtain⟨C,hC⟩:=gN (hI.at_.leaves.choose_spec.2.2) (oJ.trans e);exact absurd (fK hC hI.var) cj
    have nd:¬ob=O tb:=λ e=>by have :=Qa tb ((hI.aS tb).2 (.inr (.inr (.inl (oJ.trans e)))));have :=hI.tb;omega
    obtain⟨cb,LM⟩:=hI.at_.box.cl0;obtain⟨cv,lv⟩:=hI.var.cl0;obtain⟨Ib,ld'⟩:=hT.cl0;have xb:∀u i,(jP ob Y u).cell? ⟨bb,i,U⟩=(#[vN,G AL' s.leaves.length cL',.map (O kn),.map (O md),.map (O lf)]:Array R)[i]?:=λ u i=>(fE bb i LM nb).trans (cb i);have xv:∀u i,(jP ob Y u).cell? ⟨vb,i,U⟩=(#[M (O ⟨bb,0,U⟩)]:Array R)[i]?:=λ u i=>(fE vb i lv nv).trans (cv i);have xd:∀u i,(jP ob Y u).cell? ⟨tb,i,U⟩=(#[.bool al,.bool tg,.bool si,I J lim,I J price,I J fn,I J fd,I J tn,I J td,I J cn,I J cd,I J sn,I J sd,I J rn,I J rd,I J y]:Array R)[i]?:=λ u i=>(fE tb i ld' nd).trans (Ib i);have kW:Hid (Only (λ g=>ob=O g) Y Y.drew):=aG (Only.refl _ _).drew;have XL:=iM oJ nb nv nd;have aqx:Hid (d.1=(#[.bool al,.bool tg,.bool si,I J lim,I J price,I J fn,I J fd,I J tn,I J td,I J cn,I J cd,I J sn,I J sd,I J rn,I J rd,I J y]:Array R).toList):=HD;clear hI hT hap cb cv Ib oJ;simp only[Act.put];refine ed (S:=λ w'=>∃u,w'=jP ob Y u) [([0,1,2,3,4,5],[6,7]),([8,9],[])] 10 aV aV (dT kW.o) ?_;(refine bT (λ K9 h9=>?_);simp only[aH,aU,aW,aa,ae];(repeat(go_big_quiet_step (fail)));refine wpQuiet_nil (h9 _ ?_);clear h9 K9)
    (refine cM (λ K9 h9=>?_);simp only[aW,aa,ae])
    refine jo (by rfl) _ 63 _ (by rfl) #[.bool al,.bool tg,.bool si,I J lim,I J price,I J fn,I J fd,I J tn,I J td,I J cn,I J cd,I J sn,I J sd,I J rn,I J rd,I J y] (by rfl) underlying54 aV bY bY aV ?_;show K9 _ _;go_simp;refine h9 _ _ (dT (kW.o.alloc _)) ?_;clear h9 K9;(refine cM (λ K9 h9=>?_);simp only[aW,aa,ae])
    refine en (T:=Hm) (base:=E.base) (B:=0) (e:=63) (v:=G AL' s.leaves.length cL') (qs:=s.leaves) rfl _ _ _ rfl 112 underlying54 aV cj ?hone rfl (H1.q1.at_.leaves.below dE (ak _)) (O ⟨Y.heap.size,0,U⟩) 1 1 [d] [(#[.bool al,.bool tg,.bool si,I J lim,I J price,I J fn,I J fd,I J tn,I J td,I J cn,I J cd,I J sn,I J sd,I J rn,I J rd,I J y]:Array R).toList] rfl rfl rfl ?hr ?hsrc (by unfold maxLen;omega) ar ?hbase (ak _) ?_
    case hone=>exact λ _ _ cs x h u hu=>x.2.2.1 u (by rw[<-(show cs=x.1 from h)];exact hu)
    case hr=>intro i h1 h2;obtain rfl:i=0:=by simpa using h1
             exact HD.o.symm
    case hsrc=>have :=gL ((Bk.new Y #[.bool al,.bool tg,.bool si,I J lim,I J price,I J fn,I J fd,I J tn,I J td,I J cn,I J cd,I J sn,I J sd,I J rn,I J rd,I J y] 63).drew) 1;simpa using this
    case hbase=>have h1:=HE.q1.base;have h2:=H1.q1.only.size;simp;omega
    intro A8 c8 w8 ew eM Aj TL;show K9 _ _;go_simp;have Am:Only (λ g=>ob=O g) Y w8:=(kW.o.alloc _).grown Aj (λ g e=>.inl (XL.q1.symm.trans e));have H8:=fH ew Am TL;refine h9 _ _ (dT Am) ?_;clear h9 K9 ew eM Aj TL Am;refine bU ?_;(refine bT (λ K9 h9=>?_);simp only[aH,aU,aW,aa,ae];(repeat(go_big_quiet_step (fail)));refine wpQuiet_nil (h9 _ ?_);clear h9 K9)
    refine bU (dF ?_);simp only[aW,aa,ae];have EL:=H1.q1.at_.box.only H8.q2 XL.q2;have cq8:=EL.cell;have fq8:=EL.free 1;have lq8:=EL.lt;have S9:=aG EL;clear EL xb xv xd;go_wp2_with fail;go_meet;rw[Ax.o];obtain⟨Z,hZ⟩:∃Z,w8.setCell ⟨bb,1,U⟩ (G A8 (s.leaves.length+1) c8)=Z:=⟨_,rfl⟩;have Mu:Only (λ g=>ob=O g\/g=bb) Y Z:=by rw[<-hZ];exact(H8.q2.mono λ g e=>.inl e).aS (p:=⟨bb,1,U⟩) (.inl (.inr rfl)) _
    have hap:=H1.q1.at_.apart;have wI:∀g,ob=O g->(G AL' s.leaves.length cL').ownBlock=O g:=λ g e=>XL.q1.trans e;rw[hZ];refine⟨⟨bS F bb vN (G A8 (s.leaves.length+1) c8) kn md lf,⟨F,vN,_,kn,md,lf,⟨?_,?_,?_,?_,?_,?_,λ g hg=>?_,H1.q1.at_.Rk⟩,λ g=>Iff.rfl⟩,λ g hg=>?_⟩,H1.q1.only.trans' Mu (λ g hg=>.inl ((H1.q1.aS g).2 (hg.elim (λ e=>.inr (.inr (.inl (wI g e)))) (λ e=>.inl e)))),H1.t1.only Mu (λ hs=>hs.elim XL.t3 (λ e=>?_))⟩
    · rw[<-hZ];exact S9.o.aS 1 _
    · exact H1.q1.at_.nodes.only Mu (λ g hs hf=>hs.elim (λ e=>(hap.2.1 g (wI g e)).2.2.2.2 hf) (λ e=>(hap.2.2.2 g hf).1 e)) (λ g hg hs=>hs.elim (λ e=>(hap.1 g hg).2.2.2.2.1 (wI g e)) (λ e=>(hap.1 g hg).1 e))
    · show cH Hm 63 Z E.base 0 _ (s.leaves++[d])
      rw[<-hZ];refine H8.q1.only (S:=λ g=>g=bb) ((Only.refl (λ g=>g=bb) w8).aS (p:=⟨bb,1,U⟩) (.inl rfl) _) (λ _ _=>ak _) (ak _) (λ g hg e=>?_);obtain⟨C,hC⟩:=gN (H8.q1.choose_spec.2.2) hg;subst e;exact absurd (fK hC S9.o) cj
    · exact H1.q1.at_.known.only Mu (λ hs=>hs.elim (λ e=>(hap.2.1 _ (wI _ e)).2.1 rfl) (λ e=>hap.2.2.1.1 e.symm))
    · exact H1.q1.at_.made.only Mu (λ hs=>hs.elim (λ e=>(hap.2.1 _ (wI _ e)).2.2.1 rfl) (λ e=>hap.2.2.1.2.1 e.symm))
    · exact H1.q1.at_.leaf.only Mu (λ hs=>hs.elim (λ e=>(hap.2.1 _ (wI _ e)).2.2.2.1 rfl) (λ e=>hap.2.2.1.2.2 e.symm))
    · obtain⟨C,hC⟩:=H1.q1.at_.ints g hg
      exact⟨C,hC.only Mu (λ hs=>hs.elim (λ e=>(hap.2.1 _ (wI _ e)).2.2.2.2 hg) (λ e=>(hap.2.2.2 g hg).1 e))⟩
    · have Zr:=H1.q1.only.size
      rcases hg with e|e|e|e|e|e|e
      · exact .inl ((H1.q1.aS g).2 (.inl e))
      · exact .inl ((H1.q1.aS g).2 (.inr (.inl e)))
      · have hm:A8.map (·.block)=O g:=by cases A8 with
         |none=>simp[Value.ownBlock] at e
         |some a=>simpa [Value.ownBlock] using e
        rcases H8.t2 with q|q
        · exact .inl ((H1.q1.aS g).2 (.inr (.inr (.inl (q.symm.trans hm)))))
        · right
          rw[hm] at q;have :=aO q;simp at this;omega
      · exact .inl ((H1.q1.aS g).2 (.inr (.inr (.inr (.inl e)))))
      · exact .inl ((H1.q1.aS g).2 (.inr (.inr (.inr (.inr (.inl e))))))
      · exact .inl ((H1.q1.aS g).2 (.inr (.inr (.inr (.inr (.inr (.inl e)))))))
      · exact .inl ((H1.q1.aS g).2 (.inr (.inr (.inr (.inr (.inr (.inr e)))))))
    · exact absurd (fK H1.t1 (by rw[e];exact H1.q1.at_.box)) cj
  · as_aux_lemma=>
    have hq:q1=true:=by rw[<-HQ.t1,uV,hk];rfl
    have Ax:Hid (jW s d=s):=aG (by unfold jW;rw[hk]);clear hk HQ;subst hq;go_wp2_with fail;go_meet;rw[Ax.o];exact⟨⟨S,⟨F,vN,vL,kn,md,lf,H1.q1.at_,H1.q1.aS⟩,λ g h=>.inl h⟩,H1.q1.only,H1.t1⟩
 case rest=>
 obtain⟨Z,hZ⟩:∃Z,Z=wc:=⟨_,rfl⟩;rw[<-hZ] at hcut⊢;obtain⟨⟨S2,V1,FA⟩,IL,ZG⟩:=hcut;have XQ:=HE.q1.only IL HE.q3;have Qb:=XQ.var;rw[HP.q2,HP.t2] at Qb;obtain⟨F2,vk,wM,kn2,md2,lf2,Qc,aeK⟩:=V1;have HZ:=uF Qc aeK FA IL ZG XQ;obtain⟨cb,LM⟩:=Qc.box.cl0;obtain⟨cv,lv⟩:=Qb.cl0;obtain⟨Ib,ld'⟩:=ZG.cl0;clear hZ XQ Qb Qc aeK FA IL ZG H1 HQ;obtain⟨kl,kq⟩:∃kl,((jW s d).leaf d).getD 0=kl:=⟨_,rfl⟩;have HK:=aG kq;clear kq;go_upto_region 7 with fail;refine Ia (S:=λ w'=>∃u,w'=ext Z u) [([0,1,2,3,4,5],[6]),([7],[])] 8 [([],[8,9])] aV aV (by obtain⟨u,e⟩:=dV ((aA Z.heap.size Z).drew);exact⟨u,e.symm⟩) ?_;(refine bT (λ K9 h9=>?_);simp only[aH,aU,aW,aa,ae];(repeat(go_big_quiet_step (fail)));refine wpQuiet_nil (h9 _ ?_);clear h9 K9)
 (refine cM (λ K9 h9=>?_);simp only[aW,aa,ae])
 refine Dq (m:=(jW s d).nl) (f:=mQ (jW s d).leaf) rfl _ _ _ rfl 63 3 zI underlying113 aJ aV rfl (HZ.q1.leaf.below (aA _ _).drew) _ d rfl We.o ?_;rw[TI,HK.o];show K9 _ _;go_simp;refine h9 _ _ (by obtain⟨u,e⟩:=dV ((aA Z.heap.size Z).drew);exact⟨u,e.symm⟩) ?_;clear h9 K9;refine bU ?_;(refine bT (λ K9 h9=>?_);simp only[aH,aU,aW,aa,ae];(repeat(go_big_quiet_step (fail)));refine wpQuiet_nil (h9 _ ?_);clear h9 K9)
 refine bU (dF (P9 ?_));refine bT (λ K9 h9=>?_);refine wpQuiet_nil (h9 _ ?_);clear h9 K9;(refine cM (λ K9 h9=>?_);simp only[aW,aa,ae])
 have Ga:=(Kn HVB.o d).2;rw[HK.o] at Ga;have XR:=HE.q4.back (B8 (jW s d) ⟨0,[],[],((jW s d).leaf d).getD 0⟩);have C7:kl<=1099511627776:=by have :=XR.2.1;omega
 have HA:=aG (Oe ⟨0,[],[],kl⟩ U U 0 0 0 0 (jW s d) S2 E.base bb Z.drew (xC.below ⟨F2,vk,wM,kn2,md2,lf2,HZ.q1,HZ.q2⟩ (aA _ _).drew) cH.nil cH.nil HZ.t5.base (ak _) C7 (ak _) (ak _) XR.1 XR.2.2.1 (HZ.t5.tab.below (aA _ _).drew));clear Ga XR C7;go_wp2_with (go_at_call 37;refine HA.o.mono ?_;rintro e w3 ⟨rfl,S3,PN,DM,TW⟩;have H3:=fH PN DM TW;clear PN DM TW);refine h9 _ _ trivial ?_;clear h9 K9;(refine cM (λ K9 h9=>?_);simp only[aW,aa,ae])
 go_wp2_with fail;refine h9 _ _ trivial ?_;clear h9 K9;refine bU (dF ?_);go_wp2_with fail;go_ret;have e1:j7 s d=ra (jW s d) ⟨0,[],[],kl⟩:=by unfold j7;rw[HK.o]
 have hz:=HZ.q4.size;rw[e1];refine⟨rfl,S3,?_,HZ.q4.trans' ((Only.refl S2 Z).drew.trans H3.q2) HZ.q3,λ g hg=>?_⟩
 · exact H3.q1
 · rcases H3.t2 g hg with q|q|q
   · exact HZ.q3 g q
   · exact .inr (bm hz q)
   · rcases q with q|q<;>cases q
end
end Go.Proofs.YtbcpcneadjcmlaaGreatDoor
