import Derived.Test.YtbcpcneadjcmlaaGreatDoorK17
namespace Go.Proofs.YtbcpcneadjcmlaaGreatDoor
open Go.Proofs.Tryz
set_option maxRecDepth 100000
set_option maxHeartbeats 16000000
set_option linter.unusedVariables false
set_option linter.unusedSimpArgs false
open Value renaming int→I,slice→G
open IntKind renaming i64→J
open Option renaming some→O,none→U
open Go renaming Value→R,World→agb
open List renaming length→agh
section
open Go.RowKit Go.Maps
attribute [local go_sem] aQ aC bW
theorem gM{ops:Array Oper}{rest:List Oper}{o:Oper}{a:Act}{Q:lC}{X:agb}{base:Nat}(hgd:o.guard=U)(s x:Operand)(ho:o.op=.call {callee:=.builtin .append,args:=#[s,x],argTypes:=#[117,117]})
 (A:dB)(n c:Nat)(hs:a.eval s=G A n c)(zs:List Int)(hn:zs.length=n)(hown:cH dr 3 X base 0 (G A n c) zs)(g:Nat)(hx:a.eval x=G (O ⟨g,0,U⟩) 1 1)(z:Int)(hg:Bk X g #[I J z] 3)(hz:fits z)
 (h63:zs.length+1<=10000000000000)(hbase:base<=X.heap.size)
 (h:∀A' c' w',cH dr 3 w' base 0 (G A' (n+1) c') (zs++[z])->Only (λ g=>(G A n c).ownBlock=O g) X w'->(∀g,(G A' (n+1) c').ownBlock=O g->(G A n c).ownBlock=O g\/X.heap.size<=g)->
  wpList prog ops Q rest (a.put o.dst (G A' (n+1) c')) w'):wpList prog ops Q (o::rest) a X:=by
 subst hn
 refine en (T:=dr) (base:=base) (B:=0) (e:=3) (v:=G A zs.length c) (qs:=zs) hgd s x _ ho 8 zS aV cj (λ _ _ cs x h u hu=>by
  have e:cs=[I J x]:=h.1;rw[e,aN] at hu;subst hu;rfl) hs hown (O ⟨g,0,U⟩) 1 1 [z] [[I J z]] hx rfl rfl (λ i h1 h2=>by
  obtain rfl:i=0:=by simpa using h1
  exact⟨rfl,hz⟩) (by have :=gL hg 1;simpa using this) (by unfold maxLen;omega) ar hbase (ak _) ?_
 intro A' c' w' h1 h2 h3 h4;refine h A' c' w' h1 ((Only.refl _ _).grown h3 (λ g e=>.inl e)) (λ g hg=>?_)
 have hm:A'.map (·.block)=O g:=by cases A' with
  |none=>simp[Value.ownBlock] at hg
  |some a=>simpa [Value.ownBlock] using hg
 rcases h4 with q|q
 · exact .inl (q.symm.trans hm)
 · rw[hm] at q
   have :=aO q;exact .inr ar
theorem DW{X:agb}{g base B:Nat}{z:Int}(h:Bk X g #[I J z] 3)(hb:base<=g)(hz:fits z):cH dr 3 X base B (G (O ⟨g,0,U⟩) 1 1) [z]:=
 G9 (zs:=[z]) ⟨rfl,.inr ⟨g,1,#[I J z],rfl,hb,h,ah _,by unfold maxLen;omega,rfl,rfl⟩⟩ (λ x hx=>by rw[aN.1 hx];exact hz)
theorem oW{f:Fc}(h:f.length=10):(prog.info? 31).map (·.size)=O (iw f).size:=by rw[pM h];kernel_rfl
theorem MB{w X:agb}{AL:dB}{live:List Nat}{cL gi g:Nat}{a:Int}{t t':TypeId}(h:ic dr w AL (cV live))(hc:live.length<=cL/\cL<=maxLen)(hb:aZ w X)
 (h1:Bk X g #[G AL live.length cL,G (O ⟨gi,0,U⟩) 1 1] t)(h2:Bk X gi #[I J a] t')(ha:fits a):ic Cy X (O ⟨g,0,U⟩) [cV live,[a]]:=by
 refine wH h1 rfl λ i a1 a2=>?_;rcases i with _|_|i
 · exact⟨AL,cL,by simp[cV],by simpa [cV] using hc.1,hc.2,h.keep hb hb.size⟩
 · exact⟨_,1,rfl,ah _,by unfold maxLen;omega,qK (zs:=[a]) h2 rfl (λ z hz=>by rw[aN.1 hz];exact ha)⟩
 · exact absurd a1 bY
theorem Qh(a b:Int)(w:agb):(Instr.index 123 (.agg #[I J a,I J b]) (I J 0)).run prog w=.ok (I J a) w/\(Instr.index 123 (.agg #[I J a,I J b]) (I J 1)).run prog w=.ok (I J b) w:=
 ⟨qT (P:=prog) underlying123 aJ rfl aV _ 0 ar _ rfl w,qT (P:=prog) underlying123 aJ rfl aV _ 1 ar _ rfl w⟩
theorem Ig{z:Zn}(h:zG z=true){i:Nat}(hi:i<10):(atR aP i).1<=(atR z i).1/\(atR z i).1<=(atR z i).2/\(atR z i).2<=(atR aP i).2:=by unfold zG at h;have :=cY.1 h i (bG.2 hi);unfold Wd at this;simp only[aD,decide_eq_true_eq] at this;exact⟨this.1.2,this.1.1,this.2⟩
theorem Ih:∀a,a<=9->0<=(atR aP a).1/\(atR aP a).1<=(atR aP a).2/\(atR aP a).2<=1000000000:=by decide+kernel
theorem qL(Z:List Zn)(lo hi:Int)(a:Nat)(live:List Nat):(fI Z lo hi a live).length<=1+2*live.length:=by
 unfold fI;rw[bD]
 have :∀live:List Nat,(live.flatMap λ z=>[(atR (dK Z z) a).1,(atR (dK Z z) a).2+1].filter λ c=>decide (lo<c)&&decide (c<=hi)).length<=2*live.length:=by
  intro live;induction live with
  |nil=>simp
  |cons z r ih=>
   rw[gZ,ax,bD];have :=ei (λ c=>decide (lo<c)&&decide (c<=hi)) [(atR (dK Z z) a).1,(atR (dK Z z) a).2+1];simp only[bD,dG] at this;omega
 have :=this live;omega
theorem Ii{Z:List Zn}{lo hi:Int}{a:Nat}{live:List Nat}{j z:Nat}(h:live[j]?=O z):fI Z lo hi a (live.take (j+1))=fI Z lo hi a (live.take j)++[(atR (dK Z z) a).1,(atR (dK Z z) a).2+1].filter λ c=>decide (lo<c)&&decide (c<=hi):=by unfold fI;rw[bu,h,eJ];simp
theorem dy(l:List Nat):(cV l).length=l.length:=by simp[cV]
theorem En.node(E:En)(k:Nat)(hk:k<10)(IH:E.yv k):E.yv (k+1):=by
 intro live f s S w AL cL a ha hE EZ hB hS hl hlS Ol hl2 JH hf qd hsm;obtain⟨at_,hat⟩:∃m,m=9 - k:=⟨_,rfl⟩;have ha':a=(at_:Int):=ar;subst ha';have ajv:at_<=9:=ar;have ajw:(at_:Int)<=9:=ar
 have hkey:∀l∈ [cV live,[(at_:Int)]],l.length<=1000000:=λ l hl=>by
  simp only[aR,bH,or_false] at hl;rcases hl with rfl|rfl
  · rw[dy];omega
  · simp
 have hlen:(jE [cV live,[(at_:Int)]]).length<=220000010:=by
  have :=uM (ls:=[cV live,[(at_:Int)]]) (m:=1000000) hkey (λ l hl x hx=>by
   simp only[aR,bH,or_false] at hl;rcases hl with rfl|rfl
   · obtain⟨i,hi,rfl⟩:=bo.1 hx
     obtain⟨b3,aif,cs3,_,_,⟨_,q1,q2⟩,_⟩:=hl i hi;exact⟨q1,q2⟩
   · simp only[aR,bH,or_false] at hx
     subst hx;omega)
  simp at this;omega
 have ZI:∀(X:agb),aZ w X->ic dr X AL (cV live):=λ X hX=>hl.keep hX hX.size;have HE:=yK hE hB hS hsm EZ hl hlS qd;have HK:=dt hkey hlen;have T5:=aG hat;obtain⟨pb,oU⟩:∃pb,E.pb=pb:=⟨_,rfl⟩;obtain⟨vb,Ya⟩:∃vb,E.vb=vb:=⟨_,rfl⟩;obtain⟨lb,oy⟩:∃lb,E.lb=lb:=⟨_,rfl⟩;obtain⟨zb,hzb⟩:∃zb,E.zb=zb:=⟨_,rfl⟩;obtain⟨fb,qI⟩:∃fb,E.fb=fb:=⟨_,rfl⟩;obtain⟨bb,mN⟩:∃bb,E.bb=bb:=⟨_,rfl⟩;have IH2:=IH;unfold En.yv at IH2;simp only[oU,Ya,oy,hzb,qI,mN] at IH2;have HIH:=aG IH2;clear IH IH2;have HP:=uF oU Ya oy hzb qI mN;rw[oU,Ya,oy,hzb,qI,mN];clear hE hB hS hsm EZ hl hlS qd oU Ya oy hzb qI mN hkey hlen hat ha;go_enter func36,ntmps36;go_upto_region 9 with(go_at_call 38;(refine(Cz _ [cV live,[(at_:Int)]] 2 2 rfl _ _ (MB HE.q6 Ol dE (au _ _ _ _ bY) ((au _ _ _ _ bY).alloc _) (by unfold fits;omega)) (ah _) ar HK.q1 (HE.q1.tab.below dE)).mono ?_;rintro e w2 ⟨rfl,hb⟩;have HB:=aG hb;clear hb));have HW:Hid (aZ w w2/\Bk w2 w.heap.size (iw f) 31):=aG ⟨aq dE HB.o,Bk.sj (((au _ _ _ _ rfl).alloc _).alloc _) HB.o gW⟩;refine forget (λ W=>aZ w W/\Bk W w.heap.size (iw f) 31) HW.o ?_;clear HB HW;rintro W ⟨hW,pX⟩;obtain⟨T,hT⟩:∃T:BA0,(⟨(jE [cV live,[(at_:Int)]]).toArray⟩:BA0)=T:=⟨_,rfl⟩;rw[hT];have hkey:keyOf prog 9 (.string T)=O (Mg (live,at_)):=by rw[<-hT];exact TH (by have :=HK.t1;unfold maxLen;omega)
 have hEW:=HE.q1.below hW;obtain⟨F,vN,vL,kn,md,lf,h0,hSW⟩:=HE.q2.below hW;rw[HP.t5] at h0 hSW;have TV:=hEW.var;rw[HP.q2,HP.t5] at TV;obtain⟨AN,cN,hvN,Kj,hmN⟩:=h0.nodes.form;rw[bB] at hvN Kj;subst hvN
 have hsn:s.nodes.length<=1099511627776:=by have :=(HE.q4.back (mr (λ a live=>sS (bc E.rs) aP a live) (k+1) live f s)).1;exact this
 have H1:=yJ h0 hSW hEW hW pX TV hkey;obtain⟨cb,LM⟩:=h0.box.cl0;obtain⟨cv,lv⟩:=TV.cl0;clear h0 hSW hEW hW pX TV hkey hT;rcases hm:s.made (live,at_) with _|n
 · have S4:mQ s.made (live,at_)=U:=by unfold mQ;rw[hm];rfl
   have HM:=dt hm S4;clear hm S4;by_cases TZ:20000<s.nodes.length
   · as_aux_lemma=>have abr:(20000:Int)<(s.nodes.length:Int):=ar;go_wp2_with (at_lookup;refine kv rfl _ _ _ rfl 9 3 lV bC aJ aV rfl H1.q1.made _ (live,at_) rfl H1.t6 ?_;rw[HM.t1]);go_ret;have e:eZ (bc E.rs) aP (iK E.rs) (k+1) live f s=(s,0):=qG (by rw[<-T5.o];exact HM.q1) TZ;rw[e];exact⟨rfl,S,⟨F,_,vL,kn,md,lf,H1.q1,H1.q2⟩,aw H1.q4,λ g h=>.inl h⟩
   · have abr:¬(20000:Int)<(s.nodes.length:Int):=ar
     go_upto_region 12 with(at_lookup;refine kv rfl _ _ _ rfl 9 3 lV bC aJ aV rfl H1.q1.made _ (live,at_) rfl H1.t6 ?_;rw[HM.t1]);have hLW:=H1.q3.lim;rw[HP.q3] at hLW;have cl:W.cell? ⟨lb,at_*2,U⟩=O (I J (atR aP at_).1):=by rw[hLW.cell];exact(iC (z:=aP) (by rw[rS];omega)).1
     have ll:=hLW.lt;obtain⟨l0,l1,l2⟩:=Ih at_ ajv;obtain⟨lo,nA⟩:∃x,(atR aP at_).1=x:=⟨_,rfl⟩;obtain⟨hi,zl⟩:∃x,(atR aP at_).2=x:=⟨_,rfl⟩;rw[nA] at cl l0 l1;rw[zl] at l1 l2;have HL:=dt nA zl;clear hLW nA zl;go_upto_region 13 with fail;refine forget (λ X=>aZ W X/\cH dr 3 X W.heap.size 0 (G (O ⟨W.heap.size,0,U⟩) 1 1) [lo]) ⟨aj _ _,DW (Bk.new W _ _) (ah _) (by unfold fits;omega)⟩ ?_;clear cb LM cv lv cl ll;rintro X ⟨hX,hown⟩;have HX:=dt hX hown;clear hX hown;have Rf:∀j,(fI (bc E.rs) lo hi at_ (live.take j)).length<=200001:=λ j=>bm (qL _ _ _ _ _) (by have :(live.take j).length<=live.length:=(by rw[dh];omega);omega);have HSL:=aG Rf;clear Rf;go_wp2_with fail;go_loopw [18,108] (λ st i wr=>∃(j:Nat) (A:dB) (c:Nat),j<=live.length/\i=I J j/\st=G A (fI (bc E.rs) lo hi at_ (live.take j)).length c/\cH dr 3 wr W.heap.size 0 (G A (fI (bc E.rs) lo hi at_ (live.take j)).length c) (fI (bc E.rs) lo hi at_ (live.take j))/\aZ W wr) (λ _ i _=>live.length - (intOf i).toNat)
     case atStart=>exact⟨0,_,_,ak _,rfl,rfl,HX.t1,HX.q1⟩
     case round=>
      obtain⟨j,A,c,hj,rfl,rfl,hown,bI⟩:=hrel;generalize wr=wA at *;by_cases hlt:j<live.length
      · as_aux_lemma=>
        have rE:(j:Int)<(live.length:Int):=ar;have Yb:=H1.q3.below bI;obtain⟨bL,oL,xl,rfl,Ge,_,Hxl,dL,fl1,fl2⟩:=(HE.q6.keep (aq H1.q4 bI) (aq H1.q4 bI).size).fC (k:=j) (by rw[dy];exact hlt);obtain⟨z,hz⟩:∃z,live[j]?=O z:=⟨_,af hlt⟩
        have Fh:xl=(z:Int):=by
         have :=Hxl.o;unfold cV at this;rw[bQ,hz] at this;injection this with e
         exact e.symm
        subst Fh;have hzl:z<(bc E.rs).length:=JH z (az hz);obtain⟨bZ,oZ,zz,Rn,Qi,Hzz,hzz,FM⟩:=pz Yb.zel hzl;have hzE:dK (bc E.rs) z=zz:=by unfold dK;rw[av,Hzz.o];rfl
        obtain⟨k1,k2,k3⟩:=Ig (Yb.val zz (az Hzz.o)) (show at_<10 from ar);rw[HL.q1] at k1;rw[HL.t1] at k3;have d1:wA.cell? ⟨bZ,oZ+z*20+at_*2,U⟩=O (I J (atR zz at_).1):=FM.o _ _ (iC (by rw[hzz];omega)).1;have d2:wA.cell? ⟨bZ,oZ+z*20+at_*2+1,U⟩=O (I J (atR zz at_).2):=by rw[fu];exact FM.o _ _ (iC (by rw[hzz];omega)).2
        have hstep:=Ii (Z:=bc E.rs) (lo:=lo) (hi:=hi) (a:=at_) hz;rw[hzE] at hstep;obtain⟨r1,hr1⟩:∃x,(atR zz at_).1=x:=⟨_,rfl⟩;obtain⟨r2,hr2⟩:∃x,(atR zz at_).2=x:=⟨_,rfl⟩;rw[hr1] at d1 k1 k2 hstep;rw[hr2] at d2 k2 k3 hstep;have hzb:=Yb.zon;rw[HP.q4,Rn] at hzb;obtain⟨dz,dzl⟩:=hzb.cl0;have abt:=Yb.lim;rw[HP.q3] at abt;obtain⟨nz,hnz⟩:∃n,(bc E.rs).length=n:=⟨_,rfl⟩;obtain⟨cz,hcz⟩:∃n,E.abf=n:=⟨_,rfl⟩;rw[hnz,hcz] at dz;rw[hnz] at hzl;have hzI:(z:Int)<(nz:Int):=ar;obtain⟨zs,hzs⟩:∃zs,fI (bc E.rs) lo hi at_ (live.take j)=zs:=⟨_,rfl⟩;rw[hzs] at hstep hown⊢;have Kq:=HSL.o j;rw[hzs] at Kq;have bA:=bI.size;have HZS:=dt hstep Kq;have HA:=fH hown bI abt;have bZl:bZ<wA.heap.size:=Qi;have bLl:bL<wA.heap.size:=by have :=aq H1.q4 bI;have :=this.size;omega
        clear hstep Kq hown bI abt hzb Yb hr1 hr2 hnz hcz hzE Hzz hzz FM hzs Hxl;go_wp2_with fail;go_quiet (fail)
        go_wp2_with fail;go_loopw [18,128] (λ st i wr=>∃(A:dB) (c:Nat) (ys:List Int) (m:Int),i=I J m/\((m=0/\ys=[])\/(m=1/\ys=[r1])\/(m=2/\ys=[r1,r2+1]))/\st=G A (zs++ys.filter λ c=>decide (lo<c)&&decide (c<=hi)).length c/\cH dr 3 wr W.heap.size 0 (G A (zs++ys.filter λ c=>decide (lo<c)&&decide (c<=hi)).length c) (zs++ys.filter λ c=>decide (lo<c)&&decide (c<=hi))/\aZ W wr) (λ _ i _=>2 - (intOf i).toNat)
        case atStart=>exact⟨A,c,[],0,rfl,.inl ⟨rfl,rfl⟩,bY,by simpa using HA.q1.below (below_drewN (aA _ _) _) (ak _),below_drewN HA.q2 _⟩
        case round=>
         clear dL d1 d2 dz dzl bA bZl bLl;obtain⟨A8,c8,ys,m,rfl,hm8,rfl,ew,tB⟩:=hrel;generalize wr=wB at *;have T6:=(H1.q3.below tB).lim;rw[HP.q3] at T6;have e1:wB.cell? ⟨lb,at_*2,U⟩=O (I J lo):=by rw[T6.cell,<-HL.q1];exact(iC (z:=aP) (by rw[rS];omega)).1
         have e2:wB.cell? ⟨lb,at_*2+1,U⟩=O (I J hi):=by rw[T6.cell,<-HL.t1];exact(iC (z:=aP) (by rw[rS];omega)).2
         have e3:=T6.lt;clear T6;have ZJ:=λ w=>Qh r1 (r2+1) w
         have T7:Hid ((zs++ys.filter λ c=>decide (lo<c)&&decide (c<=hi)).length+1<=10000000000000):=aG (by
          have h1:=ei (λ c=>decide (lo<c)&&decide (c<=hi)) ys;have h2:ys.length<=2:=by rcases hm8 with⟨_,rfl⟩|⟨_,rfl⟩|⟨_,rfl⟩<;>simp
          have h3:=HZS.t1;rw[ax];omega)
         rcases hm8 with⟨rfl,rfl⟩|⟨rfl,rfl⟩|⟨rfl,rfl⟩
         ·
          by_cases p1:lo<r1
          · by_cases p2:r1<=hi
            · as_aux_lemma=>
              have ix:=(ZJ wB).1;clear ZJ;go_wp2_with (at_builtin;go_loud (refine gM rfl _ _ rfl A8 _ c8 rfl _ rfl (ew.below (aj _ _) (ak _)) _ rfl (r1) (Bk.new _ _ _) (by unfold fits;omega) T7.o (by have :=tB.size;simp;omega) ?_);intro A9 c9 w9 iO kH kT;have H9:=dt iO kH;clear iO kH kT);go_roundw
              case rel=>
               have e:(zs++(([]:List Int)).filter λ c=>decide (lo<c)&&decide (c<=hi))++[r1]=zs++([r1]).filter λ c=>decide (lo<c)&&decide (c<=hi):=by simp[jU,p1,p2];try(split<;>rfl)
               have qh:aZ W w9:=(tB.alloc tB.size _).trans (H9.t1.aK (λ g hg=>(ew.lt g hg).1) (by have :=tB.size;simp;omega));refine⟨A9,c9,[r1],1,gC,.inr (.inl ⟨rfl,rfl⟩),?_,?_,qh⟩
               · rw[<-e];simp;try omega
               · have :=H9.q1
                 rw[e] at this;have e2:(zs++(([]:List Int)).filter λ c=>decide (lo<c)&&decide (c<=hi)).length+1=(zs++([r1]).filter λ c=>decide (lo<c)&&decide (c<=hi)).length:=by rw[<-e];simp;try omega
                 rw[<-e2];exact this
              case measure=>simp[intOf]
            · exact absurd ar p2
          · as_aux_lemma=>
            have ix:=(ZJ wB).1;clear ZJ;go_wp2_with fail;go_roundw
            case rel=>
             have e:(([r1]).filter λ c=>decide (lo<c)&&decide (c<=hi))=(([]:List Int)).filter λ c=>decide (lo<c)&&decide (c<=hi):=by simp[jU,p1]
             exact⟨A8,c8,[r1],1,gC,.inr (.inl ⟨rfl,rfl⟩),by rw[e],by rw[e];exact ew,tB⟩
            case measure=>simp[intOf]
         ·
          by_cases p1:lo<r2+1
          · by_cases p2:r2+1<=hi
            · as_aux_lemma=>
              have ix:=(ZJ wB).2;clear ZJ;go_wp2_with (at_builtin;go_loud (refine gM rfl _ _ rfl A8 _ c8 rfl _ rfl (ew.below (aj _ _) (ak _)) _ rfl (r2+1) (Bk.new _ _ _) (by unfold fits;omega) T7.o (by have :=tB.size;simp;omega) ?_);intro A9 c9 w9 iO kH kT;have H9:=dt iO kH;clear iO kH kT);go_roundw
              case rel=>
               have e:(zs++([r1]).filter λ c=>decide (lo<c)&&decide (c<=hi))++[r2+1]=zs++([r1,r2+1]).filter λ c=>decide (lo<c)&&decide (c<=hi):=by simp[jU,p1,p2];try(split<;>rfl)
               have qh:aZ W w9:=(tB.alloc tB.size _).trans (H9.t1.aK (λ g hg=>(ew.lt g hg).1) (by have :=tB.size;simp;omega));refine⟨A9,c9,[r1,r2+1],2,gC,.inr (.inr ⟨rfl,rfl⟩),?_,?_,qh⟩
               · rw[<-e];simp;try omega
               · have :=H9.q1
                 rw[e] at this;have e2:(zs++([r1]).filter λ c=>decide (lo<c)&&decide (c<=hi)).length+1=(zs++([r1,r2+1]).filter λ c=>decide (lo<c)&&decide (c<=hi)).length:=by rw[<-e];simp;try omega
                 rw[<-e2];exact this
              case measure=>simp[intOf]
            · as_aux_lemma=>
              have ix:=(ZJ wB).2;clear ZJ;go_wp2_with fail;go_roundw
              case rel=>
               have e:(([r1,r2+1]).filter λ c=>decide (lo<c)&&decide (c<=hi))=([r1]).filter λ c=>decide (lo<c)&&decide (c<=hi):=by simp[jU,p2]
               exact⟨A8,c8,[r1,r2+1],2,gC,.inr (.inr ⟨rfl,rfl⟩),by rw[e],by rw[e];exact ew,tB⟩
              case measure=>simp[intOf]
          · exact absurd ar p1
         · as_aux_lemma=>
           go_wp2_with fail;go_roundw
           case rel=>exact⟨j+1,A8,c8,ar,gC,by rw[HZS.q1],by rw[HZS.q1];exact ew,tB⟩
           case measure=>simp[intOf];omega
      · obtain rfl:j=live.length:=ar
        have Kq:=HSL.o live.length;rw[aX] at hown Kq⊢;obtain⟨zs,hzs⟩:∃zs,fI (bc E.rs) lo hi at_ live=zs:=⟨_,rfl⟩;rw[hzs] at hown Kq⊢;have hst:stA (bc E.rs) aP at_ live=Lib.compact (PV zs):=by unfold stA N5;rw[HL.q1,HL.t1,hzs]
        have HA:=iM hown bI Kq hst;clear hown bI Kq hst hzs;go_upto_region 24 with(go_at_call 39;refine(yh _ _ _ _ _ HA.q1 (by have :=HA.q3;omega)).mono ?_;rintro e w2 ⟨rfl,q1,q2⟩;have HB:=dt q1 q2;clear q1 q2);have hW2:Hid (aZ W w2):=aG (HA.q2.trans (HB.t1.aK (λ g hg=>(HA.q1.lt g hg).1) HA.q2.size));go_upto_region 25 with fail;obtain⟨nb,nS⟩:∃n,w2.heap.size=n:=⟨_,rfl⟩;rw[nS];have hnW:W.heap.size<=nb:=by have :=hW2.o.size;omega
        refine forget (λ X=>aZ W X/\cH dr 3 X W.heap.size 0 (G A zs.length c) (PV zs)/\Bk X nb #[I J at_,G U 0 0,G U 0 0,I J 0] 121) ⟨hW2.o.alloc hW2.o.size _,HB.q1.below (aj _ _) (ak _),au _ _ _ _ nS⟩ ?_;have hst:=aG HA.t3;clear nS hW2 HB;clear w2 HX HA HSL;rintro X ⟨hX,hown,T8⟩;have HX:=fH hX hown T8;clear hX hown T8;go_upto_region 26 with(go_at_call 40;refine(qE _ _ _ _ _ HX.q2).mono ?_;rintro e w2 ⟨A2,c2,rfl,q1,q2,q3⟩;have HB:=fH q1 q2 q3;clear q1 q2 q3);rw[<-hst.o] at HB⊢;obtain⟨pR,ae0⟩:∃l,stA (bc E.rs) aP at_ live=l:=⟨_,rfl⟩;rw[ae0] at HB⊢;have HST:=aG ae0
        have hN:∃vC vK,DR E w W bb nb at_ f (G A2 pR.length c2) pR S (gF (bc E.rs) aP (iK E.rs) k live f (pR.take 0) (s,[],[])) S vC vK f w2:=by
         have ho:Only (λ g=>(G A zs.length c).ownBlock=O g) X w2:=HB.t2;have hlW:∀g,(G A zs.length c).ownBlock=O g->W.heap.size<=g:=λ g hg=>(HX.q2.lt g hg).1;have hW2:aZ W w2:=HX.q1.trans (ho.aK hlW HX.q1.size);have hw2:aZ w w2:=aq H1.q4 hW2;have wY:=H1.q5.lt;have Qa:=HE.q2.lt;have hsz:=H1.q4.size;have hB0:xC w2 E.base bb S s:=by rw[<-HP.t5];exact HE.q2.below hw2
         refine⟨G U 0 0,G U 0 0,hB0,λ g h=>.inl h,aw hw2,H1.q5.below hW2,hf,λ _=>rfl,HE.t7,HX.t2.only ho (λ e=>iT HX.q2 HX.t2 cj nb e rfl),cH.nil,cH.nil,HB.q1,λ g e=>(by cases e),λ g e=>(by cases e),λ g e hs=>?_,λ hs=>?_,λ hs=>?_,hnW,wY,hW2.size⟩
         · rw[HB.q2] at e
           have :=hlW g e;have :=Qa g hs;omega
         · have :=Qa _ hs
           omega
         · have :=Qa _ hs
           omega
        refine forget (λ V=>∃vC vK,DR E w W bb nb at_ f (G A2 pR.length c2) pR S (gF (bc E.rs) aP (iK E.rs) k live f (pR.take 0) (s,[],[])) S vC vK f V) hN ?_;clear hN HB HX hst hnW;clear X w2;rintro V ⟨vC,vK,hN⟩;have HN:=aG hN;clear hN
        have aqA:pR.length<=200001:=by rw[<-HST.o];exact bm (B7 _) (bm (qL _ _ _ _ _) ar)
        have HMV:Hid (s.made (live,9 - k)=U):=aG (by rw[<-T5.o];exact HM.q1);go_wp2_with fail;go_loopw [158] (λ i wr=>∃(j:Nat) (S':Nat->Prop) (vC vK:R) (fc:Fc),j<=pR.length/\i=I J j/\DR E w W bb nb at_ f (G A2 pR.length c2) pR S (gF (bc E.rs) aP (iK E.rs) k live f (pR.take j) (s,[],[])) S' vC vK fc wr) (λ i _=>pR.length - (intOf i).toNat)
        case atStart=>exact⟨0,S,vC,vK,f,ak _,rfl,HN.o⟩
        case round=>
         clear HN;clear vC vK;obtain⟨j,S',vC,vK,fc,hj,rfl,hN⟩:=hrel;generalize wr=wA at *;by_cases hlt:j<pR.length
         · as_aux_lemma=>
           have rE:(j:Int)<(pR.length:Int):=ar;obtain⟨b3,o3,cv,rfl,hb3,_,Hcv,dc,fc1,fc2⟩:=(hN.st.elems (ak _) (ah _)).fC hlt;have df:wA.cell? ⟨w.heap.size,at_,U⟩=O (I J (eO fc at_)):=by rw[hN.fb.cell];exact kQ (by rw[hN.fl];omega)
           have ZK:=hN.fb.lt;have ff':=hN.fb.free at_;have hN1:=hN.Qe (c:=cv) ⟨fc1,fc2⟩;have HN1:=aG hN1;have HC:=aG Hcv.o;clear hN hN1 Hcv;go_upto_region 29 with fail;refine forget (λ V=>DR E w W bb nb at_ f (G (O ⟨b3,o3,U⟩) pR.length c2) pR S (gF (bc E.rs) aP (iK E.rs) k live f (pR.take j) (s,[],[])) S' vC vK (f.set at_ cv) V) HN1.o ?_;clear HN1 dc df ZK ff' hb3;clear V wA;rintro V hN;have HN:=aG hN;clear hN;go_wp2_with fail;go_loopw [26,168] (λ nx i wr=>∃(m:Nat) (A:dB) (c:Nat),m<=live.length/\i=I J m/\nx=G A (gg (bc E.rs) at_ (live.take m) cv).length c/\cH dr 3 wr V.heap.size 0 (G A (gg (bc E.rs) at_ (live.take m) cv).length c) (cV (gg (bc E.rs) at_ (live.take m) cv))/\aZ V wr) (λ _ i _=>live.length - (intOf i).toNat)
           case atStart=>exact⟨0,U,0,ak _,rfl,rfl,cH.nil,aA _ _⟩
           case round=>
            obtain⟨m,A4,c4,hm4,rfl,rfl,Ay,Az⟩:=hrel;generalize wr=wB at *;have FE:=HN.o.keep Az;have hEB:=HE.q1.only FE.only HE.q3;by_cases ae2:m<live.length
            · as_aux_lemma=>
              have hml:(m:Int)<(live.length:Int):=ar;obtain⟨bL,oL,xl,rfl,Ge,_,Hxl,dL,fl1,fl2⟩:=(HE.q6.Oj iP FE.only HE.q7).fC (k:=m) (by rw[dy];exact ae2);obtain⟨z,hz⟩:∃z,live[m]?=O z:=⟨_,af ae2⟩
              have Fh:xl=(z:Int):=by
               have :=Hxl.o;unfold cV at this;rw[bQ,hz] at this;injection this with e
               exact e.symm
              subst Fh;have hzl:z<(bc E.rs).length:=JH z (az hz);obtain⟨bZ,oZ,zz,Rn,Qi,Hzz,hzz,FM⟩:=pz hEB.zel hzl;have hzE:dK (bc E.rs) z=zz:=by unfold dK;rw[av,Hzz.o];rfl
              have d1:wB.cell? ⟨bZ,oZ+z*20+at_*2,U⟩=O (I J (atR zz at_).1):=FM.o _ _ (iC (by rw[hzz];omega)).1;have d2:wB.cell? ⟨bZ,oZ+z*20+at_*2+1,U⟩=O (I J (atR zz at_).2):=by rw[fu];exact FM.o _ _ (iC (by rw[hzz];omega)).2
              have hstep:=DO (Z:=bc E.rs) (a:=at_) (c:=cv) hz;rw[hzE] at hstep;have lY:r8 (atR zz at_) cv=(decide ((atR zz at_).1<=cv)&&decide (cv<=(atR zz at_).2)):=rfl;rw[lY] at hstep;obtain⟨r1,hr1⟩:∃x,(atR zz at_).1=x:=⟨_,rfl⟩;obtain⟨r2,hr2⟩:∃x,(atR zz at_).2=x:=⟨_,rfl⟩;rw[hr1] at d1 hstep;rw[hr2] at d2 hstep;have hzb:=hEB.zon;rw[HP.q4,Rn] at hzb;obtain⟨dz,dzl⟩:=hzb.cl0;obtain⟨nz,hnz⟩:∃n,(bc E.rs).length=n:=⟨_,rfl⟩;obtain⟨cz,hcz⟩:∃n,E.abf=n:=⟨_,rfl⟩;rw[hnz,hcz] at dz;rw[hnz] at hzl;have hzI:(z:Int)<(nz:Int):=ar
              have MC:(gg (bc E.rs) at_ (live.take m) cv).length<=100000:=by
               unfold gg;have h1:=ei (λ z=>r8 (atR (dK (bc E.rs) z) at_) cv) (live.take m);have h2:(live.take m).length<=live.length:=by rw[dh];omega
               omega
              obtain⟨nx,yR⟩:∃nx,gg (bc E.rs) at_ (live.take m) cv=nx:=⟨_,rfl⟩;rw[yR] at hstep Ay MC⊢;have hzf:fits (z:Int):=⟨ar,ar⟩;have hVB:=Az.size;have Ot:=uF hstep Ay Az MC hzf hVB;have bZl:bZ<wB.heap.size:=Qi;have bLl:bL<wB.heap.size:=Ge;clear hstep Ay Az FE hEB hzb hr1 hr2 hnz hcz hzE Hzz hzz FM yR Hxl lY hz MC hzf hVB;by_cases p1:r1<=cv
              · by_cases p2:cv<=r2
                · as_aux_lemma=>
                  go_wp2_with (at_builtin;go_loud (refine gM rfl _ _ rfl A4 _ c4 rfl (cV nx) (dy nx) (Ot.q2.below dE (ak _)) _ rfl (z:Int) (au _ _ _ _ bY) Ot.q5 (by rw[dy];have :=Ot.q4;omega) (by have :=Ot.t5;simp;omega) ?_);intro A9 c9 w9 iO kH kT;have H9:=dt iO kH;clear iO kH kT);go_roundw
                  case rel=>
                   have e:gg (bc E.rs) at_ (live.take (m+1)) cv=nx++[z]:=by rw[Ot.q1];simp[p1,p2]
                   have e2:cV (nx++[z])=cV nx++[(z:Int)]:=by simp[cV]
                   have kY:=Ot.q3;refine⟨m+1,A9,c9,ar,gC,by rw[e];simp,by rw[e,e2];simpa using H9.q1,(show aZ V _ from dE).trans (H9.t1.aK (λ g hg=>(Ot.q2.lt g hg).1) (by have :=Ot.t5;simp;omega))⟩
                  case measure=>simp[intOf];omega
                · as_aux_lemma=>
                  go_wp2_with fail;go_roundw
                  case rel=>
                   have e:gg (bc E.rs) at_ (live.take (m+1)) cv=nx:=by rw[Ot.q1];simp[p2]
                   have kY:=Ot.q3;exact⟨m+1,A4,c4,ar,gC,by rw[e],by rw[e];exact Ot.q2.below dE (ak _),dE⟩
                  case measure=>simp[intOf];omega
              · as_aux_lemma=>
                go_wp2_with fail;go_roundw
                case rel=>
                 have e:gg (bc E.rs) at_ (live.take (m+1)) cv=nx:=by rw[Ot.q1];simp[p1]
                 have kY:=Ot.q3;exact⟨m+1,A4,c4,ar,gC,by rw[e],by rw[e];exact Ot.q2.below dE (ak _),dE⟩
                case measure=>simp[intOf];omega
            · as_aux_lemma=>
              obtain rfl:m=live.length:=ar;rw[aX] at Ay⊢;obtain⟨KJ,hKJ⟩:∃K,gF (bc E.rs) aP (iK E.rs) k live f (pR.take j) (s,[],[])=K:=⟨_,rfl⟩;obtain⟨r,hr⟩:∃r,eZ (bc E.rs) aP (iK E.rs) k (gg (bc E.rs) at_ live cv) (f.set at_ cv) KJ.1=r:=⟨_,rfl⟩;have hgo:(stA (bc E.rs) aP (9 - k) live)=pR:=by rw[<-T5.o];exact HST.o
              have ZL:KB (bc E.rs) aP (9 - k) KJ:=by rw[<-hKJ,<-hgo];exact Om HE.q5 j
              have abw:Sm r.1:=by have h1:=abi HE.q4 HMV.o TZ (j:=j) (c:=cv) (by rw[hgo];exact HC.o);rw[hgo,hKJ,<-T5.o,hr] at h1;exact h1
              have hvr:=uW (Z:=bc E.rs) (lim:=aP) (eE:=iK E.rs) k (gg (bc E.rs) at_ live cv) (f.set at_ cv) KJ.1 ZL.vb;rw[hr] at hvr
              have ae3:gF (bc E.rs) aP (iK E.rs) k live f (pR.take (j+1)) (s,[],[])=jX KJ cv r:=by rw[DN HC.o,hKJ,<-T5.o,hr]
              have hSz:∀g,S' g->¬E.blk g:=λ g hg hb=>by
               rcases HN.o.new g hg with q|q
               · exact HE.q3 g q hb
               · have :=HE.q1.blk hb
                 have :=HN.o.wW;omega
              have ZM:(gg (bc E.rs) at_ live cv).length<=c4/\c4<=maxLen:=by
               obtain⟨A4',c4',e4,h1,h2⟩:=Ay.form;injection e4 with e41 e42 Yc
               subst Yc;rw[dy] at h1;exact⟨h1,h2⟩
              have hbS:=HN.o.b.lt
              have ey:=HIH.o (gg (bc E.rs) at_ live cv) (f.set at_ cv) KJ.1 S' wB A4 c4 ((at_:Int)+1) (by have :=T5.o;omega) hEB ZL.vb (by rw[<-hKJ];exact FE.b) hSz (Ay.elems (ak _) (ah _)) (λ g off e hs=>by
               have h1:=(Ay.lt g (by rw[e];rfl)).1;have h2:=hbS g hs;omega) ZM (by
               have h1:=ei (λ z=>r8 (atR (dK (bc E.rs) z) at_) cv) live;unfold gg;omega) (λ z hz=>JH z (dY.1 hz).1) FE.fl FE.ff (by rw[hr];exact abw)
              rw[hr] at ey;have hfn:=hEB.fn;unfold En.fnV at hfn;rw[HP.q1,HP.q2,HP.q3,HP.q4,HP.q5] at hfn;obtain⟨cfn,lfn⟩:=hfn.cl0;have HNB:=aG FE;have HCL:=aG ey;have Yd:=lQ hKJ ae3 abw hvr ZL;clear ey hKJ hr hgo ZL abw hvr ae3 hSz hbS hfn hEB FE ZM Az Ay
              go_upto_region 38 with(first
               |(refine dM (o:=⟨O 197,_,_,_,_,_⟩) rfl _ _ rfl w.heap.size 0 rfl (iw (f.set at_ cv)) _ (λ j u h=>by rw[bX,HNB.o.fb.cell];exact h) iu rfl (oW HNB.o.fl) ?_)
               |(go_at_call 36;with_reducible refine HCL.o.mono ?_;rintro e w3 ⟨rfl,S2,q1,q2,q3⟩;have H3:=aG (HNB.o.call q1 q2 q3);clear q1 q2 q3))
              have TW:DR E w W bb nb at_ f (G (O ⟨b3,o3,U⟩) pR.length c2) pR S (r.1,KJ.2.1,KJ.2.2) S2 vC vK (f.set at_ cv) w3:=by have h:=H3.o;rw[Yd.q1] at h;exact h
              refine forget (λ V3=>DR E w W bb nb at_ f (G (O ⟨b3,o3,U⟩) pR.length c2) pR S (r.1,KJ.2.1,KJ.2.2) S2 vC vK (f.set at_ cv) V3) TW ?_;clear TW H3 HNB cfn lfn HN HCL;clear w3;rintro V3 hN;obtain⟨AC,cC,hvC,hcC,hmC⟩:=hN.cJ.form;obtain⟨AK,cK,T9,hcK,Qj⟩:=hN.kids.form;rw[dy] at T9 hcK;subst hvC;subst T9;obtain⟨s2,kd⟩:=r
              have vB:kd<=1099511627776:=by have h1:=Yd.q4.2;have h2:=Yd.q3.1;have h1':kd<=s2.nodes.length:=h1;have EH:s2.nodes.length<=1099511627776:=h2;omega
              have hlK:KJ.2.1.length<=200001/\KJ.2.2.length<=200001:=by rw[<-Yd.q1];have :=Gb (Z:=bc E.rs) (eE:=iK E.rs) (k:=k) (live:=live) (f:=f) (S:=pR.take j) (K:=(s,[],[]));rw[dh] at this;simp only[dG] at this;omega
              have We:=dt vB hlK;obtain⟨cn,ln⟩:=hN.Ca.cl0;have HN:=aG hN;clear hN hcC hmC hcK Qj vB hlK;by_cases hj0:0<j
              · have hjI:(0:Int)<(j:Int):=ar
                have hne:KJ.2.2≠ []:=by rw[<-Yd.q1];refine Ko (.inl (λ e=>?_));have :=congrArg agh e;rw[dh,show([]:List Int).length=0 from rfl] at this;omega
                obtain⟨mK,Qj⟩:∃m,KJ.2.2.length=m+1:=⟨KJ.2.2.length - 1,by have :=iY.2 hne;omega⟩;have ug:mK<=200001:=by have :=We.t2;omega
                obtain⟨bK,oK,xq,hAK,hbK,_,Hxq,dq,fq1,fq2⟩:=(HN.o.kids.elems (ak _) (ah _)).fC (k:=mK) (by rw[dy,Qj];omega);obtain⟨q,hq⟩:∃q,KJ.2.2[mK]?=O q:=⟨_,af ar⟩
                have hxq:xq=(q:Int):=by
                 have :=Hxq.o;unfold cV at this;rw[bQ,hq] at this;injection this with e
                 exact e.symm
                subst hxq;have hla:KJ.2.2.getLast?=O q:=by rw[List.getLast?_eq_getElem?,Qj];exact hq
                subst hAK;rw[Qj] at cn;have HLA:=fH hla hne Qj;clear hla hne hq Hxq Qj;by_cases hqk:q=kd
                · as_aux_lemma=>
                  subst hqk;go_wp2_with fail;go_roundw
                  case rel=>
                   have e:jX KJ cv (s2,q)=(s2,KJ.2.1,KJ.2.2):=by unfold jX;rw[if_pos HLA.q1]
                   exact⟨j+1,S2,_,_,_,ar,gC,by rw[Yd.q2,e];exact HN.o⟩
                  case measure=>simp[intOf];omega
                · as_aux_lemma=>
                  have hqI:¬(q:Int)=(kd:Int):=ar;go_upto_region 41 with(at_builtin;go_loud (refine gM rfl _ _ rfl AC _ cC rfl KJ.2.1 rfl (HN.o.cJ.below dE (ak _)) _ rfl cv (Bk.new _ _ _) ⟨fc1,fc2⟩ (by have :=We.q2;omega) (by have :=HN.o.size;simp;omega) ?_);intro A9 c9 w9 iO kH kT;have mB:Only (λ g=>(G AC KJ.2.1.length cC).ownBlock=O g) V3 w9:=((Only.refl _ V3).alloc _).trans kH;have bq:=HN.o.Ca.only mB (λ e=>iT HN.o.cJ HN.o.Ca cj nb e rfl);have cq:=bq.cell;have fq:=bq.free 1;have lq:=bq.lt;have H9:=fH iO mB kT;clear iO kH mB kT bq);have hN4:DR E w W bb nb at_ f (G (O ⟨b3,o3,U⟩) pR.length c2) pR S (s2,KJ.2.1++[cv],KJ.2.2) S2 (G A9 (KJ.2.1.length+1) c9) (G (O ⟨bK,oK,U⟩) KJ.2.2.length cK) (f.set at_ cv) (w9.setCell ⟨nb,1,U⟩ (G A9 (KJ.2.1.length+1) c9)):=HN.o.cut H9.q1 H9.q2 (λ g hg=>(H9.t2 g hg).imp id (λ h=>by simp at h;omega));refine forget (λ V4=>DR E w W bb nb at_ f (G (O ⟨b3,o3,U⟩) pR.length c2) pR S (s2,KJ.2.1++[cv],KJ.2.2) S2 (G A9 (KJ.2.1.length+1) c9) (G (O ⟨bK,oK,U⟩) KJ.2.2.length cK) (f.set at_ cv) V4) hN4 ?_;clear hN4 H9 cq fq lq cn ln dq HN;rintro V4 hN;obtain⟨cn,ln⟩:=hN.Ca.cl0;have HN:=aG hN;clear hN;go_wp2_with (at_builtin;go_loud (refine gM rfl _ _ rfl (O ⟨bK,oK,U⟩) _ cK rfl (cV KJ.2.2) (dy _) (HN.o.kids.below dE (ak _)) _ rfl (kd:Int) (Bk.new _ _ _) (by have :=We.q1;unfold fits;omega) (by rw[dy];have :=We.t2;omega) (by have :=HN.o.size;simp;omega) ?_);intro A8 c8 w8 iO kH kT;have mB:Only (λ g=>(G (O ⟨bK,oK,U⟩) KJ.2.2.length cK).ownBlock=O g) V4 w8:=((Only.refl _ V4).alloc _).trans kH;have bq:=HN.o.Ca.only mB (λ e=>iT HN.o.kids HN.o.Ca cj nb e rfl);have cq:=bq.cell;have fq:=bq.free 2;have lq:=bq.lt;have H9:=fH iO mB kT;clear iO kH mB kT bq);go_roundw
                  case rel=>
                   have e:jX KJ cv (s2,kd)=(s2,KJ.2.1++[cv],KJ.2.2++[kd]):=by unfold jX;rw[if_neg (by rw[HLA.q1];intro h;injection h with h;exact hqk h),if_neg HLA.q2]
                   exact⟨j+1,S2,_,_,_,ar,gC,by rw[Yd.q2,e];exact HN.o.kid H9.q1 H9.q2 (λ g hg=>(H9.t2 g hg).imp id (λ h=>by simp at h;omega))⟩
                  case measure=>simp[intOf];omega
              · as_aux_lemma=>
                have hjI:¬(0:Int)<(j:Int):=ar
                have hK0:KJ=(s,[],[]):=by rw[<-Yd.q1];obtain rfl:j=0:=ar;rfl
                have HK0:=aG hK0;clear hK0;go_wp2_with (at_builtin;go_loud (refine gM rfl _ _ rfl AK _ cK rfl (cV KJ.2.2) (dy _) (HN.o.kids.below dE (ak _)) _ rfl (kd:Int) (Bk.new _ _ _) (by have :=We.q1;unfold fits;omega) (by rw[dy];have :=We.t2;omega) (by have :=HN.o.size;simp;omega) ?_);intro A9 c9 w9 iO kH kT;have mB:Only (λ g=>(G AK KJ.2.2.length cK).ownBlock=O g) V3 w9:=((Only.refl _ V3).alloc _).trans kH;have bq:=HN.o.Ca.only mB (λ e=>iT HN.o.kids HN.o.Ca cj nb e rfl);have cq:=bq.cell;have fq:=bq.free 2;have lq:=bq.lt;have H9:=fH iO mB kT;clear iO kH mB kT bq);go_roundw
                case rel=>
                 have e:jX KJ cv (s2,kd)=(s2,KJ.2.1,KJ.2.2++[kd]):=by rw[HK0.o];rfl
                 exact⟨j+1,S2,_,_,_,ar,gC,by rw[Yd.q2,e];exact HN.o.kid H9.q1 H9.q2 (λ g hg=>(H9.t2 g hg).imp id (λ h=>by simp at h;omega))⟩
                case measure=>simp[intOf];omega
         · as_aux_lemma=>
           obtain rfl:j=pR.length:=ar;rw[aX] at hN;obtain⟨KF,hKF⟩:∃K,gF (bc E.rs) aP (iK E.rs) k live f pR (s,[],[])=K:=⟨_,rfl⟩;rw[hKF] at hN;have hgo:(stA (bc E.rs) aP (9 - k) live)=pR:=by rw[<-T5.o];exact HST.o
           have ZL:KB (bc E.rs) aP at_ KF:=by have h:=Om (eE:=iK E.rs) (k:=k) (live:=live) (f:=f) HE.q5 pR.length;rw[hgo,aX,hKF,<-T5.o] at h;exact h
           have ae8:Sm (eN KF at_).1:=by have h:=TY HE.q4 HMV.o TZ;rw[hgo,hKF,<-T5.o] at h;exact h
           have hres:eZ (bc E.rs) aP (iK E.rs) (k+1) live f s=(Dj (eN KF at_).1 (live,at_) (eN KF at_).2,(eN KF at_).2):=by rw[rQ HMV.o TZ,hgo,hKF,<-T5.o]
           have hne:KF.2.2≠ []:=by rw[<-hKF];refine Ko (.inl (λ e=>?_));obtain⟨rr,ZN⟩:=yi (bc E.rs) aP at_ live;rw[HST.o,e] at ZN;cases ZN
           have hlK:KF.2.1.length<=200001/\KF.2.2.length<=200001:=by rw[<-hKF];have :=Gb (Z:=bc E.rs) (eE:=iK E.rs) (k:=k) (live:=live) (f:=f) (S:=pR) (K:=(s,[],[]));simp only[dG] at this;omega
           obtain⟨AC,cC,hvC,hcC,hmC⟩:=hN.cJ.form;obtain⟨AK,cK,T9,hcK,Qj⟩:=hN.kids.form;rw[dy] at T9 hcK;subst hvC;subst T9;have sy:=iY.2 hne;obtain⟨bK,oK,xq,hAK,hbK,_,Hxq,dq,fq1,fq2⟩:=(hN.kids.elems (ak _) (ah _)).fC (k:=0) (by rw[dy];omega);obtain⟨q,hq⟩:∃q,KF.2.2[0]?=O q:=⟨_,af sy⟩
           have hxq:xq=(q:Int):=by
            have :=Hxq.o;unfold cV at this;rw[bQ,hq] at this;injection this with e
            exact e.symm
           subst hxq;subst hAK;rw[Nat.add_zero] at dq
           have hhd:KF.2.2.headD 0=q:=by
            cases e:KF.2.2 with
            |nil=>exact absurd e hne
            |cons x r=>rw[e] at hq;simpa using hq
           obtain⟨cn,ln⟩:=hN.Ca.cl0;obtain⟨nK,hnK⟩:∃n,KF.2.2.length=n:=⟨_,rfl⟩;have amJ:(0:Int)<(nK:Int):=ar;have Yb:=HE.q1.only hN.only HE.q3;have hvA:=Yb.var;rw[HP.q2,HP.t5] at hvA;obtain⟨cv,lv⟩:=hvA.cl0;have Ye:=DL ZL;have HF:=Ru hN ae8 hres hlK hhd hnK ZL Ye Yb;rw[hnK] at cn;clear hN ae8 hres hlK hhd ZL hgo hKF hne hcC hmC hcK Qj sy hq Hxq Yb hvA Ye hnK;go_upto_if 235 with fail;go_cut [31] (λ v X'=>v=I J (eN KF at_).2/\(∃S3,xC X' E.base bb S3 (eN KF at_).1/\∀g,S3 g->S g\/w.heap.size<=g)/\Only S w X')
           case first =>
            by_cases hgt:1<nK
            · as_aux_lemma=>
              have ajK:(1:Int)<(nK:Int):=ar;have hEq:eN KF at_=ra KF.1 ⟨at_,KF.2.1,KF.2.2,0⟩:=by unfold eN;rw[if_pos (by rw[HF.q6];exact hgt)]
              have hsK:=HF.q2.back (sM KF at_);have Mi:E.base<=W.heap.size:=by have h1:=HE.q1.base;have h2:=H1.q4.size;omega
              have HA:=aG (Oe ⟨at_,KF.2.1,KF.2.2,0⟩ AC (O ⟨bK,oK,U⟩) KF.2.1.length cC nK cK KF.1 S' E.base bb wA HF.q1.b (HF.q1.cJ.weaken Mi) (by have h:=HF.q1.kids.weaken Mi;rw[HF.q6] at h;exact h) HF.t8.base (show at_<=10 from ar) (ak _) (by have :=HF.q4.1;show KF.2.1.length<=1000000;omega) (by have :=HF.q4.2;show KF.2.2.length<=1000000;omega) hsK.1 hsK.2.2.1 HF.t8.tab);have Heq:=aG hEq;clear hsK Mi hEq;go_wp2_with (go_at_call 37;refine HA.o.mono ?_;rintro e w3 ⟨rfl,S3,PN,DM,TW⟩;have H3:=fH PN DM TW;clear PN DM TW);go_meet;rw[Heq.o];have qh:=HF.q1.wW;have hsz:=HF.q1.only.size;refine⟨rfl,⟨S3,H3.q1,λ g hg=>?_⟩,HF.q1.only.trans' H3.q2 (λ g hg=>(HF.q1.new g hg).imp id (λ h=>ar))⟩;rcases H3.t2 g hg with h|h|h
              · exact(HF.q1.new g h).imp id (λ h=>ar)
              · exact .inr ar
              · rcases h with h|h
                · exact .inr (by have :=(HF.q1.cJ.lt g h).1;omega)
                · exact .inr (by have :=(HF.q1.kids.lt g (by rw[HF.q6];exact h)).1;omega)
            · as_aux_lemma=>
              have ajK:¬(1:Int)<(nK:Int):=ar;have hEq:eN KF at_=(KF.1,q):=by unfold eN;rw[if_neg (by rw[HF.q6];exact hgt),HF.q5]
              have Heq:=aG hEq;clear hEq;go_wp2_with fail;go_meet;rw[Heq.o];have qh:=HF.q1.wW;exact⟨rfl,⟨S',HF.q1.b,λ g hg=>(HF.q1.new g hg).imp id (λ h=>ar)⟩,HF.q1.only⟩
           case rest=>
           obtain⟨Z,hZ⟩:∃Z,Z=wc:=⟨_,rfl⟩;rw[<-hZ] at hcut⊢;obtain⟨hv,⟨S3,⟨F3,vN3,Yf,kn3,md3,lf3,PN,hS3⟩,TW⟩,DM⟩:=hcut;obtain⟨ov,aby⟩:∃n,(eN KF at_).2=n:=⟨_,rfl⟩;rw[aby] at hv;first|subst hv|(have hv':=hv.symm;subst hv')
           have XQ:=HE.q1.only DM HE.q3;have Qb:=XQ.var;rw[HP.q2,HP.t5] at Qb;obtain⟨cb,LM⟩:=PN.box.cl0;obtain⟨cv2,lv2⟩:=Qb.cl0
           have aqL:ov<=1099511627776:=by have h1:=HF.q8.2;have h2:=HF.q2.1;omega
           have HZ:=lQ PN hS3 TW DM aby;clear hZ PN hS3 TW DM XQ Qb aby cn ln dq cv lv;go_wp2_with (at_mapUpdate;refine qH (m:=(eN KF at_).1.nm) (f:=mQ (eN KF at_).1.made) rfl _ _ _ _ rfl 9 3 lV bC aJ Tt (by have :=HF.q2.2.2.2.1;unfold maxLen;omega) rfl HZ.q1.made _ (live,at_) rfl H1.t6 (ov:Int) (by simp[Lit.wf,IntKind.min,IntKind.max,IntKind.signed,IntKind.bits];omega) gC ?_;intro w3 Aq ru;have HM3:=dt Aq ru;clear Aq ru);go_ret;rw[HF.q3];have hap:=HZ.q1.apart;have ru:=HM3.t1;have ajN:S3 md3:=(HZ.q2 md3).2 (.inr (.inr (.inr (.inr (.inl rfl)))));refine⟨by rw[HZ.t4];rfl,S3,⟨F3,vN3,Yf,kn3,md3,lf3,⟨?_,?_,?_,?_,?_,?_,λ g hg=>?_,HZ.q1.Rk⟩,HZ.q2⟩,HZ.q4.trans' ru (λ g hg=>by rw[hg];exact HZ.q3 md3 ajN),HZ.q3⟩
           · exact HZ.q1.box.only ru hap.2.2.1.2.1
           · exact HZ.q1.nodes.only ru (λ g hg hf=>(hap.2.2.2 g hf).2.2.1 hg) (λ g hg=>(hap.1 g hg).2.2.1)
           · exact HZ.q1.leaves.only ru (λ _ _=>ak _) (ak _) (λ g hg=>(hap.2.1 g hg).2.2.1)
           · exact HZ.q1.known.only ru HZ.q1.Rk.1
           · have h:=HM3.q1
             rw[uV,<-DA,<-HZ.t4] at h;exact h
           · exact HZ.q1.leaf.only ru (λ e=>HZ.q1.Rk.2.2 e.symm)
           · obtain⟨C,hC⟩:=HZ.q1.ints g hg
             exact⟨C,hC.only ru (hap.2.2.2 g hg).2.2.1⟩
 · as_aux_lemma=>
   have S4:mQ s.made (live,at_)=O (n:Int):=by unfold mQ;rw[hm];rfl
   have HM:=dt hm S4;clear hm S4;go_wp2_with (at_lookup;refine kv rfl _ _ _ rfl 9 3 lV bC aJ aV rfl H1.q1.made _ (live,at_) rfl H1.t6 ?_;rw[HM.t1]);go_ret;have e:eZ (bc E.rs) aP (iK E.rs) (k+1) live f s=(s,n):=qF (by rw[<-T5.o];exact HM.q1);rw[e];exact⟨rfl,S,⟨F,_,vL,kn,md,lf,H1.q1,H1.q2⟩,aw H1.q4,λ g h=>.inl h⟩
end
end Go.Proofs.YtbcpcneadjcmlaaGreatDoor
