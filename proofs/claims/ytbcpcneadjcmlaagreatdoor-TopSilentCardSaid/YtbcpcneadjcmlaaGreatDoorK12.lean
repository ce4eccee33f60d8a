import Derived.Test.YtbcpcneadjcmlaaGreatDoorK11
namespace Go.Proofs.YtbcpcneadjcmlaaGreatDoor
open Go.Proofs.Tryz
set_option maxRecDepth 100000
set_option maxHeartbeats 16000000
set_option linter.unusedVariables false
set_option linter.unusedSimpArgs false
open Value renaming int→I,slice→G
open IntKind renaming i64→J
open Obj renaming cells→D
open Option renaming some→O,none→U
open Go renaming Value→R,World→agb
section
open Go.RowKit Go.ChangeAt
attribute [local go_sem] aQ aC bW
theorem AU{S S':Nat->Prop}{a w w':agb}(h:Only S a w)(k:Only S' w w')(hs:∀g,S' g->S g\/a.heap.size<=g):Only S a w':=
 ⟨k.os.trans h.os,k.tape.trans h.tape,k.output.trans h.output,bm h.size k.size,λ g hg hn=>(k.block g (dI hg h.size) (λ h'=>by
  rcases hs g h' with h1|h1
  · exact hn h1
  · omega)).trans (h.block g hg hn)⟩
theorem ye{L:Nm}{l:List It}{i:Nat}{x:It}(h:l[i]?=O x):dZ L l (i+1)=dZ L l i++[if(fN L (ny l i x) x).1=0 then vx L x else pE]:=by rw[dZ,h]
theorem vE{L:Nm}{l:List It}{i:Nat}{x:It}(h:l[i]?=O x):dC L l (i+1)=dC L l i++if(fN L (ny l i x) x).1=0 then [] else [((fN L (ny l i x) x).1,x.2.2.2.2.2.2,(fN L (ny l i x) x).2)]:=by rw[dC,h]
theorem uq{L:Nm}{l:List It}:∀{i:Nat},i<=l.length->(dZ L l i).length=i
 |0,_=>rfl
 |i+1,h=>by
  rw[ye (af (show i<l.length from ar)),ax,uq ar];rfl
theorem yf{L:Nm}{l:List It}:∀{i:Nat},i<=l.length->(dC L l i).length<=i
 |0,_=>ah _
 |i+1,h=>by
  rw[vE (af (show i<l.length from ar)),ax];have :=yf (L:=L) (l:=l) (i:=i) ar;split<;>simp <;>omega
def N1(w:agb)(L:Nm)(ls:List It)(e:Ending)(w':agb):Prop:=
 Below w.heap.size w w'/\∃A1 c1 A2 c2,e=.returned (.tuple #[.agg #[G A1 (jx L ls).length c1],G A2 (je L ls).length c2])/\
  cG se w' w'.heap.size A1 (jx L ls)/\cG V9 w' w'.heap.size A2 (je L ls)
theorem J4{w w':agb}{L:Nm}{ls:List It}{fs:List Fa}{A:dB}{n c:Nat}(hf:je L ls=fs)(hne:fs≠ [])(hn:fs.length=n)(hb:Below w.heap.size w w')(h:cG V9 w' w'.heap.size A fs):
 N1 w L ls (.returned (.tuple #[.agg #[G U 0 0],G A n c])) w':=by
 subst hf;subst hn;have hr:jx L ls=[]:=by unfold jx;rw[if_neg hne]
 exact⟨hb,U,0,A,c,by rw[hr];rfl,by rw[hr];exact cG.nil,h⟩
theorem PT{w w':agb}{L:Nm}{ls:List It}{rs:List Rl}{A:dB}{n c:Nat}(hf:je L ls=[])(hr:dZ L ls ls.length=rs)(hn:rs.length=n)(hb:Below w.heap.size w w')(h:cG se w' w'.heap.size A rs):
 N1 w L ls (.returned (.tuple #[.agg #[G A n c],G U 0 0])) w':=by
 subst hn;have he:jx L ls=rs:=by unfold jx;rw[if_pos hf];exact hr
 exact⟨hb,A,c,U,0,by rw[he,hf];rfl,by rw[he];exact h,by rw[hf];exact cG.nil⟩
theorem cG.Tf{α:Type}{T:Ty α}{w:agb}{B:Nat}{A:dB}{xs:List α}(h:cG T w B A xs){x:α}(hx:x∈xs):∃cs,T.rd w B cs x:=by obtain⟨i,hi,rfl⟩:=bo.1 hx;obtain⟨_,_,cs,_,_,h9,_⟩:=h i hi;exact⟨cs,h9⟩
theorem PU{w:agb}{B:Nat}{A:dB}{ws:List (List Ts)}(h:cG (eF Fs) w B A ws):∀l∈ws,∀t∈l,fits t.2.1/\fits t.2.2.2.1/\fits t.2.2.2.2:=by intro l hl t ht;obtain⟨cs,A1,c1,_,_,_,h1⟩:=h.Tf hl;obtain⟨cs2,c3,r1,_,⟨_,_⟩,⟨c4,r2,_,⟨_,f1⟩,⟨c5,r3,_,⟨_,_⟩,⟨c6,r4,_,⟨_,f2⟩,⟨_,f3⟩⟩⟩⟩⟩:=h1.Tf ht;exact⟨f1,f2,f3⟩
theorem FR{L:Nm}:∀{l:List Ts}{e:Int×Int},(∀t∈l,fits t.2.2.2.2)->kP L l=O e->fits e.2
 |[],e,_,h=>by simp[kP] at h
 |t::l,e,hf,h=>by
  unfold kP at h;split at h
  · exact FR (λ t ht=>hf t (by simp[ht])) h
  · cases h;exact hf t bY
theorem FT{L:Nm}:∀{ws:List (List Ts)}{e:Int×Int},(∀l∈ws,∀t∈l,fits t.2.2.2.2)->oQ L ws=O e->fits e.2
 |[],e,_,h=>by simp[oQ] at h
 |l::r,e,hf,h=>by
  unfold oQ at h;cases hx:kP L l with
  |some e9=>rw[hx] at h;cases h;exact FR (hf l bY) hx
  |none=>rw[hx] at h;exact FT (λ l hl=>hf l (by simp[hl])) h
theorem Md{L:Nm}{tw:Bool}{x:It}(h:∀l∈x.2.2.1,∀t∈l,fits t.2.2.2.2):fits (fN L tw x).1/\fits (fN L tw x).2:=by
 unfold fN;split
 · simp[fits]
 · split
   · simp[fits]
   · split
     · simp[fits]
     · split
       · rename_i e he
         exact⟨(ya he).2,FT h he⟩
       · split<;>simp[fits]
theorem Tg{w w':agb}{L:Nm}{tw:Bool}{kd n rn rd sn sd fR:Int}{nm:BA0}{ws:List (List Ts)}{e:Ending}(h:J3 w L tw (kd,nm,ws,n,(rn,rd),(sn,sd),fR) e w')(hn:nm.size<=maxLen)(f1:fits kd)(f2:fits n)(f3:fits rn)(f4:fits rd)(f5:fits sn)(f6:fits sd):
 ∃rc q,e=.returned (.tuple #[.agg rc,.agg #[I J (fN L tw (kd,nm,ws,n,(rn,rd),(sn,sd),fR)).1,I J (fN L tw (kd,nm,ws,n,(rn,rd),(sn,sd),fR)).2]])/\Di w' rc.toList q/\rc.size=8/\rc.all (·.oneCell')=true/\
  q=(if(fN L tw (kd,nm,ws,n,(rn,rd),(sn,sd),fR)).1=0 then vx L (kd,nm,ws,n,(rn,rd),(sn,sd),fR) else pE)/\Below w.heap.size w w':=by
 obtain⟨hb,h⟩:=h;by_cases h0:(fN L tw (kd,nm,ws,n,(rn,rd),(sn,sd),fR)).1=0
 · rw[if_pos h0] at h
   rw[if_pos h0];obtain⟨A,c,rfl,hz⟩:=h
   have h2:(fN L tw (kd,nm,ws,n,(rn,rd),(sn,sd),fR)).2=0:=by
    revert h0
    unfold fN;split
    · intro h0;simp at h0
    · split
      · intro h0;simp at h0
      · split
        · intro h0;simp at h0
        · split
          · rename_i e he
            intro h0;exact absurd h0 (ya he).1
          · split<;>simp
   rw[h0,h2];exact⟨_,_,rfl,⟨A,c,rfl,hz,hn,f1,f2,f3,f4,f5,f6⟩,rfl,L8 _ _ _ _,rfl,hb⟩
 · rw[if_neg h0] at h
   rw[if_neg h0];subst h;exact⟨kZ,pE,rfl,⟨U,0,rfl,cH.nil,by unfold maxLen;decide,by simp[pE,fits],by simp[pE,fits],by simp[pE,fits],by simp[pE,fits],by simp[pE,fits],by simp[pE,fits]⟩,rfl,aV,rfl,hb⟩
theorem Ao(A:dB)(ls:List It)(cap:Nat)(hn:BA0)(x y:Int)(AH:dB)(lh:List Le)(ch:Nat)(w:agb)(B:Nat)(h:cG Fu w B A ls)(hh:cG Ji w B AH lh)(hB:B<=w.heap.size)(hl:ls.length<=210)(u6:ls.length<=cap)(hcm:cap<=9223372036854775807)
 (Lh:∀x∈ls,x.2.2.1.length<=12/\∀l∈x.2.2.1,l.length<=8)(tu:lh.length<=10)(tH:∀l∈lh,l.2.2.1.length+l.2.2.2.1.length<=50)(L:Nm)(hL:(kX lh,kI lh)=L):
 Calls prog 9 #[.agg #[G A ls.length cap],.agg #[.string hn,I J x,I J y,G AH lh.length ch]] w (N1 w L ls):=by
 have hL1:L.1.length<=1000000:=by rw[<-hL];simp[kX];omega
 have hL2:L.2.length<=1000000:=by have h9:=B5 tH lh.length;unfold kh at h9;rw[aX] at h9;rw[<-hL];show(kI lh).length<=_;omega
 have HH:=lQ h hh Lh tH hL;clear h hh Lh tH hL;go_enter func9,ntmps9;go_upto_region 4 with(go_at_call 24;refine(PG hn x y AH lh ch _ B (HH.q2.keep (show Below B w _ by refine Below.mono (B:=w.heap.size) ?_ hB;exact dE) (ah _)) gW tu HH.q4).mono ?_;rw[HH.t4];rintro e w1 ⟨sb,rfl,hs,hb,oV⟩;have HS:=fH hs hb oV;clear hs hb oV);have hz1:=HS.q2.size;simp at hz1;have hW:Below w.heap.size w w1:=aq (show Below w.heap.size w _ from dE) HS.q2;have hb2:Bk w1 w.heap.size #[G A ls.length cap] 29:=(((Bk.new w #[G A ls.length cap] 29).alloc _).alloc _).below HS.q2;have hb4:Bk w1 (w.heap.size+1+1) #[G U 0 0] 38:=(au _ (w.heap.size+1+1) _ _ bY).below HS.q2;have mj:=iM HS.q1 hW hb2 hb4;have oV:=HS.q1.lt;have HE:=aG (HH.q1.keep (hW.mono hB) (ah _));have N2:=aG HH.q3;refine forget (λ X=>Below w1.heap.size w1 X/\Bk X w1.heap.size #[G U 0 0] 38) ⟨aj _ _,Bk.new _ _ _⟩ ?_;have hwz:w.heap.size+3<=w1.heap.size:=ar;clear hW hb2 hb4 HH HS hz1;generalize oU:w1.heap.size=pb at *;generalize hb0:w.heap.size=w0 at *;rintro X1 ⟨hX,bp⟩;have c2:X1.cell? ⟨w0,0,U⟩=O (G A ls.length cap):=(mj.q3.below (show Below w1.heap.size w1 X1 from oU▸hX)).cell 0;have l2:w0<X1.heap.size:=by have :=hX.size;omega
 have HX:=iM hX bp oU hb0;clear hX bp oU hb0;go_wp2_with fail;clear c2 l2;go_loopw [8,9,10,11,12,13,19] (λ fv _ _ _ _ _ i wr=>∃(k:Nat) (v:R),k<=ls.length/\k<=200/\i=I J k/\Below pb w1 wr/\Bk wr pb #[v] 38/\pL wr (pb+1) v (dZ L ls k)/\cH V9 95 wr (pb+1) 0 fv (dC L ls k)) (λ _ _ _ _ _ _ i _=>ls.length - (intOf i).toNat)
 case atStart=>exact⟨0,_,ar,ar,rfl,HX.q1,HX.q2,pL.nil,cH.nil⟩
 case round=>
  obtain⟨k,v,hk,hk2,rfl,hw,bp,hr,hf⟩:=hrel;have hwr:=hw.size;have hpl:=bp.lt;obtain⟨Af,cf,rfl,hcf,C9⟩:=hf.form;have ai3:cf<=9223372036854775807:=by unfold maxLen at C9;omega
  have wY:=yf (L:=L) hk;have c2:wr.cell? ⟨w0,0,U⟩=O (G A ls.length cap):=(mj.q3.below (show Below w1.heap.size w1 wr from HX.q3▸hw)).cell 0;have l2:w0<wr.heap.size:=ar;by_cases hlt:k<ls.length
  · obtain⟨b,off,kd,nm,AW,ws,cw,n,rn,rd,sn,sd,fR,rfl,hb,Hk,d0,d1,d2,d3,d4,d5,d6,d7,d8,g1,g2,g3,f1,f2,f3,f4,f5,f6,f7,g4⟩:=xN (HE.o.keep (hw.mono (show B<=pb from ar)) (ah _)) hlt
    have kq:(k:Int)<(ls.length:Int):=ar;have bw:b<wr.heap.size:=ar;have HO:=iM hw bp hr hf;clear hw bp hr hf;by_cases BK:k=200
    · have Zw:((k:Int)==200)=true:=by simpa using(show(k:Int)=200 from ar)
      have ai4:=aG BK;clear BK
      have FU:Hid (je L ls=dC L ls k++[(3,fR,-1)]):=aG (by have aeq:=ai4.o;subst aeq;unfold je;rw[Nat.min_eq_right ar,Hk.o])
      have zZ:0<((dC L ls k).length:Int)+1:=ar;clear g3 g4 Hk;as_aux_lemma=>
      go_wp2_with (at_builtin;refine en (T:=V9) (base:=pb+1) (B:=0) (qs:=dC L ls k) (v:=G Af (dC L ls k).length cf) rfl _ _ _ rfl 24 underlying39 aV cj Td rfl (HO.t3.below (show Below wr.heap.size wr _ from dE) ar) (O ⟨wr.heap.size+1,0,U⟩) 1 1 [(3,fR,-1)] [[I J 3,I J fR,I J (-1)]] rfl rfl rfl (λ i a1 a2=>by obtain rfl:i=0:=(by simp at a1;omega);exact Zv _ _ (by unfold fits;omega) f7 (by unfold fits;omega)) (by have :=gL (GF wr (D #[I J kd,.string nm,G AW ws.length cw,I J n,I J rn,I J rd,I J sn,I J sd,I J fR] 52) #[I J 3,I J fR,I J (-1)] 95) 1;simpa using this) (by unfold maxLen;omega) ar gW ar ?_;intro A8 c8 w8 ew eM Aj yK;have H8:=dt ew eM;clear ew eM Aj yK;have Hb8:=aG (HO.q1.trans (((show Below wr.heap.size wr _ from dE).mono (show pb<=wr.heap.size from ar)).trans (H8.t1.mono (show pb<=pb+1 from ar))));have Hq8:=aG (mj.t3.below (HX.q3▸Hb8.o));have c4:=Hq8.o.cell 0;have q4:=Hq8.o.free 0;have l4:=Hq8.o.lt);refine bodyPost_ret (v:=.tuple #[.agg #[G U 0 0],G A8 ((dC L ls k).length+1) c8]) (by simp[results,results9,go_sem,l4,c4]) rfl (J4 FU.o bY bY ?_ ?_)
      · rw[HX.t3]
        exact(mj.q2.trans (Hb8.o.mono ar)).setCell gW _
      · exact(H8.q1.only ((Only.refl (λ g=>g=w0+1+1) w8).aS (p:=⟨w0+1+1,0,U⟩) (.inl rfl) _) (λ g hg=>ar) ar (λ g hg=>by have :=(H8.q1.lt g hg).1;omega)).elems (ak _) (ah _)
    · have Zw:((k:Int)==200)=false:=by simpa using(show ¬(k:Int)=200 from ar)
      have hk3:k<200:=ar;have RN:(k:Int)<=(cap:Int):=ar;have hc0:¬cap=0:=ar;have Sd:(0:Int)<=(k:Int):=ar;clear BK hk2;obtain⟨tw,htw⟩:∃tw,ny ls k (kd,nm,ws,n,(rn,rd),(sn,sd),fR)=tw:=⟨_,rfl⟩;have hst:=ye (L:=L) Hk.o;have hft:=vE (L:=L) Hk.o;rw[htw] at hst hft;have hff:=Md (L:=L) (tw:=tw) (x:=(kd,nm,ws,n,(rn,rd),(sn,sd),fR)) (λ l hl t ht=>(PU g3.o l hl t ht).2.2);have aes:=N2.o _ (az Hk.o);have HT:=iM hst hft hff aes;have Htw:=aG (show((ls.take k).any λ y=>rO y.2.1 nm)=tw from htw);have Th:∀(fn:Fn)(first cap:Array R)(w:agb),(Instr.makeFunc fn first cap).run prog w=.ok (.func fn first cap) w:=λ _ _ _ _=>rfl;have hlk:(ls.take k).length=k:=by rw[dh];omega
      have Hlk:=aG hlk;clear hst hft hff aes htw hlk;go_upto_region 10 with(go_at_call 25;refine(G7 _ (ls.take k) k _ _ nm _ B ((HE.o.take k).keep (show Below B w1 _ from((HO.q1.trans ((aj wr _).mono (show pb<=wr.heap.size from ar))).mono (show B<=pb from ar))) (ah _)) gW ((Bk.new wr #[I J kd,.string nm,G AW ws.length cw,I J n,I J rn,I J rd,I J sn,I J sd,I J fR] 52).cell 1) bY (by rw[Hlk.o];omega) Hlk.o tw Htw.o).mono ?_;rintro e w2 ⟨rfl,hb2⟩;have JZ:=aG hb2;clear hb2);have kY:Below wr.heap.size wr w2:=(aj wr _).trans (JZ.o.mono bY);refine forget (λ X=>Below pb w1 X/\Bk X wr.heap.size #[I J kd,.string nm,G AW ws.length cw,I J n,I J rn,I J rd,I J sn,I J sd,I J fR] 52/\Bk X pb #[v] 38/\pL X (pb+1) v (dZ L ls k)/\cH V9 95 X (pb+1) 0 (G Af (dC L ls k).length cf) (dC L ls k)/\cG (eF Fs) X B AW ws) ⟨HO.q1.trans (kY.mono (show pb<=wr.heap.size from ar)),(Bk.new _ _ _).below JZ.o,HO.q2.below kY,HO.q3.below kY,HO.t3.below kY ar,g3.o.keep (kY.mono ar) (ah _)⟩ ?_;have hfo:=λ g hg=>(HO.t3.lt g hg).2;have hro:=λ g hg=>(HO.q3.lt g hg).2;have HFO:=dt hfo hro;clear HO kY JZ Htw Hlk Th RN hc0 Sd g3 g4 d0 d1 d2 d3 d4 d5 d6 d7 d8 c2 l2 bw hb hfo hro Zw C9;generalize J5:wr.heap.size=xb at *;clear J5;rintro X ⟨Px,bx,bp,hr,hf,he⟩;have hXz:=Px.size;have ai8:pb<=X.heap.size:=by have :=HX.q3;omega
      obtain⟨er,her⟩:∃e,(fN L tw (kd,nm,ws,n,(rn,rd),(sn,sd),fR)).1=e:=⟨_,rfl⟩;obtain⟨ot,Xs⟩:∃e,(fN L tw (kd,nm,ws,n,(rn,rd),(sn,sd),fR)).2=e:=⟨_,rfl⟩;have hff:=HT.q3;rw[her,Xs] at hff;obtain⟨fe,fo⟩:=hff;have Fh:=bx.lt;have cx0:X.cell? ⟨xb,0,U⟩=O (I J kd):=bx.cell 0;have cx1:X.cell? ⟨xb,1,U⟩=O (.string nm):=bx.cell 1;have cx2:X.cell? ⟨xb,2,U⟩=O (G AW ws.length cw):=bx.cell 2;have cx3:X.cell? ⟨xb,3,U⟩=O (I J n):=bx.cell 3;have cx4:X.cell? ⟨xb,4,U⟩=O (I J rn):=bx.cell 4;have cx5:X.cell? ⟨xb,5,U⟩=O (I J rd):=bx.cell 5;have cx6:X.cell? ⟨xb,6,U⟩=O (I J sn):=bx.cell 6;have cx7:X.cell? ⟨xb,7,U⟩=O (I J sd):=bx.cell 7;have cx8:X.cell? ⟨xb,8,U⟩=O (I J fR):=bx.cell 8;have HP:=yK Px bx bp hr hf he her Xs;clear Px bx bp hr hf he her Xs
      go_upto_region 11 with(first
       |(go_at_call 27;refine(Tb sb L tw kd nm AW cw n rn rd sn sd fR X ws B HP.q6 ar (mj.q1.below (show Below w1.heap.size w1 X from HX.q3▸HP.q1)) hL1 hL2 HT.q4 HT.t4 f1 f2 f3 f4 f5 f6).mono ?_;rintro e w3 hR;obtain⟨rc,q,he,N3,Ti,N4,Zx,hb3⟩:=Tg hR (by unfold maxLen;omega) f1 f2 f3 f4 f5 f6;rw[HP.q7,HP.t7] at he;rw[HP.q7] at Zx;subst he;have H3:=lQ N3 Ti N4 Zx hb3;clear hR N3 Ti N4 Zx hb3)
       |(refine eK (o:=⟨U,.store 48 _ _,_,_,_,_⟩) rfl _ _ _ rfl w3.heap.size rc rfl rfl ((Bk.new w3 kZ 48).alloc _) (by rw[H3.q2];kernel_rfl) (by rw[H3.q2];rfl) H3.q3 ?_;intro X7 Lg py;have H7:=dt Lg py;clear Lg py)
       |(refine eK (o:=⟨U,.store 99 _ _,_,_,_,_⟩) rfl _ _ _ rfl (w3.heap.size+1) #[I J er,I J ot] rfl rfl ((GF w3 (D kZ 48) #[I J 0,I J 0] 99).only H7.t1 bY) aV rfl aV ?_;intro X8 Ad GV;have H8:=dt Ad GV;clear Ad GV))
      simp only[Act.put];have Lg:Below w3.heap.size w3 X8:=((show Below w3.heap.size w3 _ from dE).trans (H7.t1.aK (B:=w3.heap.size) (λ g hg=>ar) gW)).trans (H8.t1.aK (B:=w3.heap.size) (λ g hg=>ar) (by have :=H7.t1.size;simp at this;omega));have Ad:Below X.heap.size X X8:=H3.t4.trans (Lg.mono H3.t4.size);have HQ:=aG H3.q4;have Wa:=aG H3.q2;have hw3:=H3.t4.size;refine forget (λ Y=>Below pb w1 Y/\Bk Y xb #[I J kd,.string nm,G AW ws.length cw,I J n,I J rn,I J rd,I J sn,I J sd,I J fR] 52/\Bk Y pb #[v] 38/\pL Y (pb+1) v (dZ L ls k)/\cH V9 95 Y (pb+1) 0 (G Af (dC L ls k).length cf) (dC L ls k)/\Bk Y w3.heap.size rc 48/\Bk Y (w3.heap.size+1) #[I J er,I J ot] 99/\Di Y rc.toList q) ⟨HP.q1.trans (Ad.mono ai8),HP.q2.below Ad,HP.q3.below Ad,HP.q4.below Ad,HP.q5.below Ad ar,H7.q1.only H8.t1 ar,H8.q1,H3.q1.only (S:=λ _=>False) (aw Lg) (λ g hg=>hg.elim)⟩ ?_;clear H7 H8 H3 Lg Ad cx0 cx1 cx2 cx3 cx4 cx5 cx6 cx7 cx8;generalize w3.heap.size=rb at *;rintro Y ⟨hY,bx,bp,hr,hf,br,bq,hq⟩;have cb0:Y.cell? ⟨rb+1,0,U⟩=O (I J er):=bq.cell 0;have lb0:=bq.lt;by_cases he0:er=0
      · have Hne:=aG he0
        have Xt:Hid (dC L ls (k+1)=dC L ls k):=aG (by rw[HT.q2,HP.q7,if_pos he0,dU]);subst he0;clear bx bq;as_aux_lemma=>
        obtain⟨Ar,cr,rfl,Wb,hmr⟩:=hr.form;have ai9:cr<=9223372036854775807:=by unfold maxLen at hmr;omega
        have uR:(dZ L ls k).length<=1000:=by rw[uq hk];omega
        have cp0:Y.cell? ⟨pb,0,U⟩=O (G Ar (dZ L ls k).length cr):=bp.cell 0;have fp0:=bp.free 0;have lp0:=bp.lt;have hYz:=hY.size;have lr0:=br.lt;have hro:=λ g hg=>(hr.lt g hg);have HY:=uF hY bp hr hf br hq;clear hY bp hr hf br hq
        go_wp2_with (first
         |(refine dM (o:=⟨O 60,_,_,_,_,_⟩) rfl _ _ rfl rb 0 rfl rc _ (λ j u h=>by rw[bX,HY.q5.cell];exact h) underlying48 rfl (by rw[Wa.o];kernel_rfl) ?_)
         |(refine iz (o:=⟨O 61,_,_,_,_,_⟩) rfl _ 48 _ rfl rc rfl rq (by rw[Wa.o];kernel_rfl) (by rw[Wa.o];decide) (by rw[Wa.o];decide) (by rw[Wa.o];kernel_rfl) ?_)
         |(at_builtin;refine yc (base:=pb+1) (v:=G Ar (dZ L ls k).length cr) (qs:=dZ L ls k) rfl _ _ rfl rfl (HY.q3.below (aj _ _)) (O ⟨Y.heap.size,0,U⟩) 1 rc.toList q rfl (gL (Bk.new Y rc 48) 1) (HY.t5.only (aw (S:=λ _=>False) (aj _ _)) (λ g hg=>hg.elim)) ar gW ?_;intro A5 c5 w5 hr5 Zy Zz;have H5:=fH hr5 Zy Zz;clear hr5 Zy Zz;have hS5:Only (λ g=>(G Ar (dZ L ls k).length cr).ownBlock=O g) Y w5:=AU (S':=λ g=>(G Ar (dZ L ls k).length cr).ownBlock=O g) (aw (aj Y (D rc 48))) H5.t2 (λ g hg=>.inl hg);have Tj:=HY.q2.only hS5 (λ h=>by have :=(hro pb h).1;omega);have cq5:w5.cell? ⟨pb,0,U⟩=O (G Ar (dZ L ls k).length cr):=Tj.cell 0;have fq5:=Tj.free 0;have lq5:=Tj.lt;have Xu:=dt hS5 Tj;clear hS5 Tj))
        go_roundw
        case rel=>
         have Wc:Only (λ g=>g=pb) w5 (w5.setCell ⟨pb,0,U⟩ (G A5 ((dZ L ls k).length+1) c5)):=(Only.refl (λ g=>g=pb) w5).aS (p:=⟨pb,0,U⟩) (.inl rfl) _
         have O1:∀g,(G Af (dC L ls k).length cf).ownBlock=O g->¬(G Ar (dZ L ls k).length cr).ownBlock=O g:=λ g h1 h2=>by obtain⟨C1,k1⟩:=sJ HY.q4 h1;obtain⟨C2,k2⟩:=HY.q3.typed h2;exact JX k1 k2 cj rfl
         have hf5:=HY.q4.only Xu.q1 (λ g hg=>ak _) (ak _) O1;refine⟨k+1,G A5 ((dZ L ls k).length+1) c5,ar,ar,gC,?_,?_,?_,?_⟩
         · exact((HY.q1.trans (Xu.q1.aK (B:=pb) (λ g hg=>by have :=(hro g hg).1;omega) ar)).trans (Wc.aK (B:=pb) (λ g hg=>ar) ar))
         · exact Xu.t1.aS 0 _
         · rw[HT.q1,HP.q7,<-HQ.o]
           exact H5.q1.only Wc (λ g hg=>by subst hg;exact⟨_,_,Xu.t1,cj⟩) (λ g hg h=>by have :=(H5.q1.lt g hg).1;omega)
         · have e9:dC L ls (k+1)=dC L ls k:=Xt.o
           rw[e9];exact hf5.only Wc (λ g hg=>ak _) (ak _) (λ g hg h=>by have :=(hf5.lt g hg).1;omega)
        case measure=>simp[intOf];omega
      · have Hne:=aG he0
        have Xt:Hid (dC L ls (k+1)=dC L ls k++[(er,fR,ot)]):=aG (by rw[HT.q2,HP.q7,HP.t7,if_neg he0]);have hb1:(er==0)=false:=by simpa using he0
        have hb2:(er !=0)=true:=by simpa using he0
        have cb1:Y.cell? ⟨rb+1,1,U⟩=O (I J ot):=bq.cell 1;have cx8:Y.cell? ⟨xb,8,U⟩=O (I J fR):=bx.cell 8;have lx8:=bx.lt;have ajb:pb+1<=Y.heap.size:=by have :=bp.lt;omega
        have HZ:=yK hY bx bp hr hf br bq hq;clear hY bx bp hr hf br bq hq;as_aux_lemma=>
        go_upto_region 13 with(at_builtin;refine en (T:=V9) (base:=pb+1) (B:=0) (qs:=dC L ls k) (v:=G Af (dC L ls k).length cf) rfl _ _ _ rfl 24 underlying39 aV cj Td rfl (HZ.q5.below (aj _ _) (ak _)) (O ⟨Y.heap.size,0,U⟩) 1 1 [(er,fR,ot)] [[I J er,I J fR,I J ot]] rfl rfl rfl (λ i a1 a2=>by obtain rfl:i=0:=(by simp at a1;omega);exact Zv _ _ fe f7 fo) (by have :=gL (Bk.new Y #[I J er,I J fR,I J ot] 95) 1;simpa using this) (by unfold maxLen;omega) ar gW ar ?_;intro A8 c8 w8 ew eM Aj yK;have H8:=dt ew Aj;clear ew eM Aj yK);have Am:Only (λ g=>(G Af (dC L ls k).length cf).ownBlock=O g) Y w8:=((Only.refl _ Y).alloc _).grown H8.t1 (λ g e=>.inl e)
        have NI:∀g,(G Af (dC L ls k).length cf).ownBlock=O g->∃C t,Bk Y g C t/\t≠90:=λ g hg=>by obtain⟨C,hC⟩:=sJ HZ.q5 hg;exact⟨C,_,hC,cj⟩
        have nS:∀{g:Nat}{C:Array R}{t:TypeId},Bk Y g C t->t≠95->¬(G Af (dC L ls k).length cf).ownBlock=O g:=λ hb hne h=>by obtain⟨C,hC⟩:=sJ HZ.q5 h;exact JX hb hC hne rfl
        have hbl:Below pb w1 w8:=HZ.q1.trans (Am.aK (B:=pb) (λ g hg=>by have :=(HZ.q5.lt g hg).1;omega) ar)
        refine forget (λ Y2=>Below pb w1 Y2/\Bk Y2 pb #[v] 38/\pL Y2 (pb+1) v (dZ L ls k)/\cH V9 95 Y2 (pb+1) 0 (G A8 ((dC L ls k).length+1) c8) (dC L ls k++[(er,fR,ot)])/\Bk Y2 rb rc 48/\Di Y2 rc.toList q) ⟨hbl,HZ.q3.only Am (nS HZ.q3 cj),HZ.q4.only Am NI (λ g hg=>by obtain⟨C,hC⟩:=HZ.q4.typed hg;exact nS hC cj),H8.q1,HZ.q6.only Am (nS HZ.q6 cj),HZ.t7.only Am NI⟩ ?_
        clear HZ H8 Am NI nS hbl cb0 cb1 cx8 lx8 lb0 hb1 hb2 ajb;rintro Y2 ⟨hY,bp,hr,hf,br,hq⟩;obtain⟨Ar,cr,rfl,Wb,hmr⟩:=hr.form;have ai9:cr<=9223372036854775807:=by unfold maxLen at hmr;omega
        have uR:(dZ L ls k).length<=1000:=by rw[uq hk];omega
        have cp0:Y2.cell? ⟨pb,0,U⟩=O (G Ar (dZ L ls k).length cr):=bp.cell 0;have fp0:=bp.free 0;have lp0:=bp.lt;have hYz:=hY.size;have lr0:=br.lt;have hro:=λ g hg=>(hr.lt g hg);have HY:=uF hY bp hr hf br hq;clear hY bp hr hf br hq
        go_wp2_with (first
         |(refine dM (o:=⟨O 60,_,_,_,_,_⟩) rfl _ _ rfl rb 0 rfl rc _ (λ j u h=>by rw[bX,HY.q5.cell];exact h) underlying48 rfl (by rw[Wa.o];kernel_rfl) ?_)
         |(refine iz (o:=⟨O 61,_,_,_,_,_⟩) rfl _ 48 _ rfl rc rfl rq (by rw[Wa.o];kernel_rfl) (by rw[Wa.o];decide) (by rw[Wa.o];decide) (by rw[Wa.o];kernel_rfl) ?_)
         |(at_builtin;refine yc (base:=pb+1) (v:=G Ar (dZ L ls k).length cr) (qs:=dZ L ls k) rfl _ _ rfl rfl (HY.q3.below (aj _ _)) (O ⟨Y2.heap.size,0,U⟩) 1 rc.toList q rfl (gL (Bk.new Y2 rc 48) 1) (HY.t5.only (aw (S:=λ _=>False) (aj _ _)) (λ g hg=>hg.elim)) ar gW ?_;intro A5 c5 w5 hr5 Zy Zz;have H5:=fH hr5 Zy Zz;clear hr5 Zy Zz;have hS5:Only (λ g=>(G Ar (dZ L ls k).length cr).ownBlock=O g) Y2 w5:=AU (S':=λ g=>(G Ar (dZ L ls k).length cr).ownBlock=O g) (aw (aj Y2 (D rc 48))) H5.t2 (λ g hg=>.inl hg);have Tj:=HY.q2.only hS5 (λ h=>by have :=(hro pb h).1;omega);have cq5:w5.cell? ⟨pb,0,U⟩=O (G Ar (dZ L ls k).length cr):=Tj.cell 0;have fq5:=Tj.free 0;have lq5:=Tj.lt;have Xu:=dt hS5 Tj;clear hS5 Tj))
        go_roundw
        case rel=>
         have Wc:Only (λ g=>g=pb) w5 (w5.setCell ⟨pb,0,U⟩ (G A5 ((dZ L ls k).length+1) c5)):=(Only.refl (λ g=>g=pb) w5).aS (p:=⟨pb,0,U⟩) (.inl rfl) _
         have O1:∀g,(G A8 ((dC L ls k).length+1) c8).ownBlock=O g->¬(G Ar (dZ L ls k).length cr).ownBlock=O g:=λ g h1 h2=>by obtain⟨C1,k1⟩:=sJ HY.q4 h1;obtain⟨C2,k2⟩:=HY.q3.typed h2;exact JX k1 k2 cj rfl
         have hf5:=HY.q4.only Xu.q1 (λ g hg=>ak _) (ak _) O1;refine⟨k+1,G A5 ((dZ L ls k).length+1) c5,ar,ar,gC,?_,?_,?_,?_⟩
         · exact((HY.q1.trans (Xu.q1.aK (B:=pb) (λ g hg=>by have :=(hro g hg).1;omega) ar)).trans (Wc.aK (B:=pb) (λ g hg=>ar) ar))
         · exact Xu.t1.aS 0 _
         · rw[HT.q1,HP.q7,<-HQ.o]
           exact H5.q1.only Wc (λ g hg=>by subst hg;exact⟨_,_,Xu.t1,cj⟩) (λ g hg h=>by have :=(H5.q1.lt g hg).1;omega)
         · have e9:dC L ls (k+1)=dC L ls k++[(er,fR,ot)]:=Xt.o
           rw[e9];exact hf5.only Wc (λ g hg=>ak _) (ak _) (λ g hg h=>by have :=(hf5.lt g hg).1;omega)
        case measure=>simp[intOf];omega
  · obtain rfl:k=ls.length:=ar
    have hfp:je L ls=dC L ls ls.length:=by unfold je;rw[Nat.min_eq_left hk2,cX ar,dU]
    have Hfp:=aG hfp;have Zx:=mj.t3.below (show Below w1.heap.size w1 wr from HX.q3▸hw);have c4:wr.cell? ⟨w0+1+1,0,U⟩=O (G U 0 0):=Zx.cell 0;have q4:=Zx.free 0;have l4:=Zx.lt;obtain⟨Ar,cr,rfl,Wb,hmr⟩:=hr.form;have cp0:wr.cell? ⟨pb,0,U⟩=O (G Ar (dZ L ls ls.length).length cr):=bp.cell 0;have HO:=iM hw bp hr hf;clear hfp Zx hw bp hr hf c2 l2 hcf C9 ai3 Wb hmr hwr;have Wc:∀u,Only (λ g=>g=w0+1+1) wr (wr.setCell ⟨w0+1+1,0,U⟩ u):=λ u=>(Only.refl (λ g=>g=w0+1+1) wr).aS (p:=⟨w0+1+1,0,U⟩) (.inl rfl) _;have Hs6:=aG Wc;clear Wc;by_cases hnil:dC L ls ls.length=[]
    · have hl0:(dC L ls ls.length).length=0:=by rw[hnil];rfl
      have aa7:=aG hnil;clear hnil;as_aux_lemma=>
      go_wp2_with fail;refine bodyPost_ret (v:=.tuple #[.agg #[G Ar (dZ L ls ls.length).length cr],G U 0 0]) (by simp[results,results9,go_sem,l4,c4]) rfl (PT (Hfp.o.trans aa7.o) rfl rfl ?_ ?_)
      · rw[HX.t3]
        exact(mj.q2.trans (HO.q1.mono ar)).setCell gW _
      · exact(HO.q3.only (Hs6.o _) (λ g hg=>by subst hg;exact⟨_,_,mj.t3.below (show Below w1.heap.size w1 wr from HX.q3▸HO.q1),cj⟩) (λ g hg=>by have :=(HO.q3.lt g hg).1;omega)).elems
    · have zZ:0<((dC L ls ls.length).length:Int):=by
       have :(dC L ls ls.length).length≠0:=λ h=>hnil (lI.1 h);omega
      have aa7:=aG hnil;clear hnil cp0;as_aux_lemma=>
      go_wp2_with fail;refine bodyPost_ret (v:=.tuple #[.agg #[G U 0 0],G Af (dC L ls ls.length).length cf]) (by simp[results,results9,go_sem,l4,c4]) rfl (J4 Hfp.o aa7.o rfl ?_ ?_)
      · rw[HX.t3]
        exact(mj.q2.trans (HO.q1.mono ar)).setCell gW _
      · exact(HO.t3.only (Hs6.o _) (λ g hg=>ak _) (ak _) (λ g hg=>by have :=(HO.t3.lt g hg).1;omega)).elems (ak _) (ah _)
end
end Go.Proofs.YtbcpcneadjcmlaaGreatDoor
