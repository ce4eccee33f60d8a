import Derived.Test.YtbcpcneadjcmlaaGreatDoorK21
namespace Go.Proofs.YtbcpcneadjcmlaaGreatDoor
open Go.Proofs.Tryz
set_option maxRecDepth 100000
set_option maxHeartbeats 16000000
set_option linter.unusedVariables false
set_option linter.unusedSimpArgs false
open Value renaming int→I,slice→G,pointer→M
open IntKind renaming i64→J
open Obj renaming cells→D
open Option renaming some→O,none→U
open Go renaming Value→R,World→agb
section
open Go.RowKit Go.Maps
attribute [local go_sem] aQ aC bW
def wQ(cs:List Int)(v:Int):Int:=if gT cs v<cs.length then(gT cs v:Int) else -1
theorem afr(A:dB)(cs:List Int)(cap:Nat)(v:Int)(p1 p2:Nat)(w:agb)(h:ic dr w A cs)(hl:cs.length<=9223372036854775807)(hc:∀X c,aZ w X->fits c->Calls prog 45 #[I J c,M (O ⟨p1,0,U⟩),M (O ⟨p2,0,U⟩)] X λ e X'=>e=.returned (.bool (decide (v<c)))/\aZ X X'):
 Calls prog 44 #[G A cs.length cap,.func (.func 45) #[] #[M (O ⟨p1,0,U⟩),M (O ⟨p2,0,U⟩)]] w (jL (I J (wQ cs v)) w):=by
 have HH:=dt h hc;clear h hc;go_enter func44,ntmps44;go_wp2_with fail;go_loopw [8] (λ i wr=>∃j:Nat,j<=cs.length/\i=I J j/\(∀k c,cs[k]?=O c->k<j->c<=v)/\aZ w wr) (λ i _=>cs.length - (intOf i).toNat)
 case atStart=>exact⟨0,ak _,rfl,λ k c _ h=>ar,aA _ _⟩
 case round=>
  obtain⟨j,hj,rfl,hall,bI⟩:=hrel;generalize wr=wA at *;by_cases hlt:j<cs.length
  · as_aux_lemma=>
    have rE:(j:Int)<(cs.length:Int):=ar;obtain⟨b,off,c,rfl,hb,_,Hc,d0,f1,f2⟩:=(HH.q1.keep bI (ah _)).fC hlt;have hbl:b<wA.heap.size:=by have :=bI.size;omega
    have ey:=HH.t1 wA c bI ⟨f1,f2⟩;have HC:=fH ey hall bI;clear ey hall bI;by_cases hv:v<c
    · as_aux_lemma=>have hd:decide (v<c)=true:=decide_eq_true hv;rw[hd] at HC;go_wp2_with (go_at_call 45;refine HC.q1.mono ?_;rintro e w3 ⟨rfl,hb3⟩;have H3:=aG hb3;clear hb3);go_ret;have he:gT cs v=j:=Cr ar HC.q2 (λ x hx=>by rw[Hc.o] at hx;cases hx;exact hv);refine⟨?_,aq HC.t2 H3.o⟩;unfold wQ;rw[he,if_pos hlt];rfl
    · as_aux_lemma=>
      have hd:decide (v<c)=false:=decide_eq_false hv;rw[hd] at HC;go_wp2_with (go_at_call 45;refine HC.q1.mono ?_;rintro e w3 ⟨rfl,hb3⟩;have H3:=aG hb3;clear hb3);go_roundw
      case rel=>
       refine⟨j+1,ar,gC,λ k x hx hk=>?_,aq HC.t2 H3.o⟩;by_cases hkj:k<j
       · exact HC.q2 k x hx hkj
       · obtain rfl:k=j:=ar
         rw[Hc.o] at hx;cases hx
         omega
      case measure=>simp[intOf];omega
  · as_aux_lemma=>
    obtain rfl:j=cs.length:=ar
    have he:gT cs v=cs.length:=rD (λ c hc=>by obtain⟨i,hi,rfl⟩:=bo.1 hc;exact hall i _ (af hi) hi)
    have HC:=dt he bI;clear he hall bI;go_wp2_with fail;go_ret;refine⟨?_,HC.t1⟩;unfold wQ;rw[HC.q1,if_neg ar];rfl
theorem afs(A:dB)(cs:List Int)(cap:Nat)(v:Int)(p1:Nat)(w:agb)(h:ic dr w A cs)(hl:cs.length<=9223372036854775807)(hc:∀X c,aZ w X->fits c->Calls prog 173 #[I J c,M (O ⟨p1,0,U⟩)] X λ e X'=>e=.returned (.bool (decide (v<c)))/\aZ X X'):
 Calls prog 44 #[G A cs.length cap,.func (.func 173) #[] #[M (O ⟨p1,0,U⟩)]] w (jL (I J (wQ cs v)) w):=by
 have HH:=dt h hc;clear h hc;go_enter func44,ntmps44;go_wp2_with fail;go_loopw [8] (λ i wr=>∃j:Nat,j<=cs.length/\i=I J j/\(∀k c,cs[k]?=O c->k<j->c<=v)/\aZ w wr) (λ i _=>cs.length - (intOf i).toNat)
 case atStart=>exact⟨0,ak _,rfl,λ k c _ h=>ar,aA _ _⟩
 case round=>
  obtain⟨j,hj,rfl,hall,bI⟩:=hrel;generalize wr=wA at *;by_cases hlt:j<cs.length
  · as_aux_lemma=>
    have rE:(j:Int)<(cs.length:Int):=ar;obtain⟨b,off,c,rfl,hb,_,Hc,d0,f1,f2⟩:=(HH.q1.keep bI (ah _)).fC hlt;have hbl:b<wA.heap.size:=by have :=bI.size;omega
    have ey:=HH.t1 wA c bI ⟨f1,f2⟩;have HC:=fH ey hall bI;clear ey hall bI;by_cases hv:v<c
    · as_aux_lemma=>have hd:decide (v<c)=true:=decide_eq_true hv;rw[hd] at HC;go_wp2_with (go_at_call 173;refine HC.q1.mono ?_;rintro e w3 ⟨rfl,hb3⟩;have H3:=aG hb3;clear hb3);go_ret;have he:gT cs v=j:=Cr ar HC.q2 (λ x hx=>by rw[Hc.o] at hx;cases hx;exact hv);refine⟨?_,aq HC.t2 H3.o⟩;unfold wQ;rw[he,if_pos hlt];rfl
    · as_aux_lemma=>
      have hd:decide (v<c)=false:=decide_eq_false hv;rw[hd] at HC;go_wp2_with (go_at_call 173;refine HC.q1.mono ?_;rintro e w3 ⟨rfl,hb3⟩;have H3:=aG hb3;clear hb3);go_roundw
      case rel=>
       refine⟨j+1,ar,gC,λ k x hx hk=>?_,aq HC.t2 H3.o⟩;by_cases hkj:k<j
       · exact HC.q2 k x hx hkj
       · obtain rfl:k=j:=ar
         rw[Hc.o] at hx;cases hx
         omega
      case measure=>simp[intOf];omega
  · as_aux_lemma=>
    obtain rfl:j=cs.length:=ar
    have he:gT cs v=cs.length:=rD (λ c hc=>by obtain⟨i,hi,rfl⟩:=bo.1 hc;exact hall i _ (af hi) hi)
    have HC:=dt he bI;clear he hall bI;go_wp2_with fail;go_ret;refine⟨?_,HC.t1⟩;unfold wQ;rw[HC.q1,if_neg ar];rfl
theorem Uq(c v:Int)(b:Nat)(X:agb)(h:Bk X b #[I J v] 3):Calls prog 173 #[I J c,M (O ⟨b,0,U⟩)] X λ e X'=>e=.returned (.bool (decide (v<c)))/\aZ X X':=by obtain⟨c1,l1⟩:=h.cl0;clear h;go_enter func173,ntmps173;go_wp2_with fail;go_ret;exact⟨rfl,aA _ _⟩
theorem Qo(c:Int)(f:Fc)(a:Nat)(fb nb:Nat)(s1 s2 s3:R)(X:agb)(hf:f.length=10)(ha:a<10)(h1:Bk X fb (iw f) 31)(h2:Bk X nb #[I J (a:Nat),s1,s2,s3] 121):Calls prog 45 #[I J c,M (O ⟨fb,0,U⟩),M (O ⟨nb,0,U⟩)] X λ e X'=>e=.returned (.bool (decide (eO f a<c)))/\aZ X X':=by
 have c1:X.cell? ⟨fb,a,U⟩=O (I J (eO f a)):=by rw[h1.cell];exact kQ ar
 have l1:=h1.lt;obtain⟨c2,l2⟩:=h2.cl0;have haI:(a:Int)<10:=ar;clear h1 h2;go_enter func45,ntmps45;go_wp2_with fail;go_ret;exact⟨rfl,aA _ _⟩
theorem E3{P:Program}{ops:Array Oper}{rest:List Oper}{o:Oper}{a:Act}{w:agb}{Q:lC}(hw:Region.wanted o (yielded ops a.tmps)=true)(ty:TypeId)(x:Operand)(ho:o.op=.load ty x)
 (b off:Nat)(hx:a.eval x=M (O ⟨b,off,U⟩))(cs:Array R)(d:TypeDesc)(hc:∀j u,cs[j]?=O u->w.cell? ⟨b,off+j,U⟩=O u)
 (hu:P.underlying ty=O d)(hd:(match d with | .struct _| .array _ _=>true|_=>false)=true)(hi:(P.info? ty).map (·.size)=O cs.size)
 (h:wpList P ops Q rest (a.put o.dst (.agg cs)) w):wpList P ops Q (o::rest) a w:=by
 unfold wpList;rw[if_pos hw];exact .inl (Cq ty x ho b off hx cs d hc hu hd hi h)
theorem MH{κ:Type}{lit:κ->Lit}{P:Program}{w:agb}{ops:Array Oper}{rest:List Oper}{o:Oper}{a:Act}{Q:lC}{b m:Nat}{f:κ->Option Bool}(hw:Region.wanted o (yielded ops a.tmps)=true)(mm x:Operand)(t:TypeId)(hop:o.op=Op.lookup t mm x false)(k e:TypeId)(K:Keyed P k)(ht:P.underlying t=O (.map k e))(he:P.underlying e=O .bool)(hz:(zeroValue e).run P w=.ok (.bool false) w)
 (hm:a.eval mm=.map (O b))(h:iI lit P k e w b m f)(key:R)(c:κ)(hx:a.eval x=key)(hkey:keyOf P k key=O (lit c))(hK:wpList P ops Q rest (a.put o.dst (.bool ((f c).getD false))) w):wpList P ops Q (o::rest) a w:=by
 unfold wpList;rw[if_pos hw];refine .inl ?_;have hrun:=h.look K ht he hz hkey;unfold Oper.wp;simp[execOp,hop,hm,hx,hrun,Result.andThen];exact hK
def nh{κ:Type}(l:List κ)[DecidableEq κ]:κ->Option Bool:=λ x=>if x∈l then O true else U
theorem Gk{κ:Type}[DecidableEq κ](l:List κ)(x:κ):u7 (nh l) x true=nh (l++[x]):=by
 funext y
 unfold u7 nh;by_cases h:y=x
 · rw[if_pos h,if_pos (by simp[h])]
 · rw[if_neg h]
   by_cases hx:y∈l
   · rw[if_pos hx,if_pos (by simp[hx])]
   · rw[if_neg hx,if_neg (by simp[hx,h])]
theorem AE{α:Type}{l:List α}(h:l.Nodup){j:Nat}{x:α}(hx:l[j]?=O x):x∉l.take j:=λ hm=>by obtain⟨i,hi,e⟩:=bo.1 hm;rw[dh] at hi;obtain⟨hj,rfl⟩:=ai.1 hx;rw[List.getElem_take] at e;have :=pg h ar hj e;omega
variable{Z:List Zn}{eE:Fc->Dk}
theorem MI{T:List Nd}{Lv:List Dk}(h:mU Z aP eE T Lv):uX T:=λ n c hn hc=>by
 obtain⟨nd,h1,h2,h3⟩:=rF hc;rcases h.form n nd h1 with⟨hk,_⟩|⟨_,_,_,_,_,_,_,hk⟩
 · rw[<-h2,hk] at hc;exact absurd hc bY
 · exact(hk c (by rw[h2];exact hc)).1
theorem Kv{T:List Nd}{Lv:List Dk}(h:mU Z aP eE T Lv)(hZ:Z.length<=100000){j:Nat}{nd:Nd}(hn:T[j]?=O nd):nd.kids.length<=300000/\nd.cJ.length<=300000:=by
 rcases h.form j nd hn with⟨hk,_,hc,_⟩|⟨ha,_,_,hl,hp,hc,_⟩
 · rw[hk,hc];simp
 · have h1:nd.cJ.length<=(mA Z aP nd.attr).length:=rP hp (h.cJ nd (az hn))
   have h2:(mA Z aP nd.attr).length<=1+2*(Z.length+1):=by unfold mA stA;refine bm (B7 _) (bm (qL _ _ _ _ _) ?_);rw[eW];exact ah _
   omega
theorem MJ{T:List Nd}{Lv:List Dk}(h:mU Z aP eE T Lv):sr T (tj T):=Fl (lim:=aP) λ i nd hi=>⟨_,_,h.form i nd hi⟩
theorem akh{w X:agb}{A3 A4:dB}{xs ys:List Int}{q3 q4 l4 gi g:Nat}{a b:Int}{t t':TypeId}(h1:ic dr w A3 xs)(c1:xs.length<=q3/\q3<=maxLen)(h2:ic dr w A4 ys)(c2:l4<=q4/\q4<=maxLen)(hl:ys.length=l4)(hb:aZ w X)
 (k1:Bk X g #[G A3 xs.length q3,G A4 l4 q4,G (O ⟨gi,0,U⟩) 2 2] t)(k2:Bk X gi #[I J a,I J b] t')(ha:fits a)(hb2:fits b):ic Cy X (O ⟨g,0,U⟩) [xs,ys,[a,b]]:=by
 subst hl;refine wH k1 rfl λ i a1 a2=>?_;rcases i with _|_|_|i
 · exact⟨A3,q3,rfl,c1.1,c1.2,h1.keep hb hb.size⟩
 · exact⟨A4,q4,rfl,c2.1,c2.2,h2.keep hb hb.size⟩
 · refine⟨_,2,rfl,ah _,by unfold maxLen;omega,qK (zs:=[a,b]) k2 rfl (λ z hz=>?_)⟩
   simp only[aR,bH,or_false] at hz;rcases hz with rfl|rfl
   · exact ha
   · exact hb2
 · exact absurd a1 bY
theorem Qp(T:List Nd){i j:Nat}(h:i<=j):lN T i<=lN T j:=by unfold lN;exact((List.take_sublist_take_left h).filter _).length_le
theorem Il{w:agb}{B:Nat}{A:dB}{N:List Dk}(h:cG Hm w B A N){n:Nat}{d:Dk}(hn:N[n]?=O d):
 ∃b off,A=O ⟨b,off,U⟩/\b<B/\∀i u,d.1.toArray[i]?=O u->w.cell? ⟨b,off+n*16+i,U⟩=O u:=by
 obtain⟨hl,rfl⟩:=ai.1 hn;obtain⟨b,off,cs,hA,hb,hr,hc⟩:=h n hl;have Fv:cs=N[n].1:=hr;subst Fv;exact⟨b,off,hA,hb,λ i u h=>hc i u (by simpa using h)⟩
theorem Cb(d:Dk):(prog.info? 63).map (·.size)=O d.1.toArray.size:=by
 have h:d.1.toArray.size=16:=by simp[d.2.1]
 rw[h];exact(aV:(prog.info? 63).map (·.size)=O 16)
structure Vd(w:agb)(A1:dB)(c1:Nat)(A2:dB)(c2:Nat)(T:List Nd)(Lv:List Dk)(km dm j:Nat)(X:agb):Prop where
 low:aZ w X
 tb:Bk X w.heap.size #[G A1 T.length c1,G A2 Lv.length c2] 56
 known:iI yl prog 9 4 X km j (nh (T.take j))
 dec:iI yt prog 63 4 X dm (lN T j) (nh (Lv.take (lN T j)))
 kw:w.heap.size<=km
 dw:w.heap.size<=dm
 kd:km≠dm
theorem D4(A1 A2:dB)(c1 c2:Nat)(T:List Nd)(Lv:List Dk)(w:agb)(h:mU Z aP eE T Lv)(h1:ic vH w A1 (T.map pA))(h2:ic Hm w A2 Lv)(ht:nu w)(hZ:Z.length<=100000):
 Calls prog 42 #[.agg #[G A1 T.length c1,G A2 Lv.length c2]] w (jL (.bool true) w):=by
 have qf:= @run_makeMap prog;have hT1:(1:Int)<=(T.length:Int):=by have :=h.pos;omega
 have ZG:(T.length:Int)<=20000:=by have :=h.le;omega
 have g1:¬(T.length:Int)<1:=ar;have g2:¬(20000:Int)<(T.length:Int):=ar;have HH:=iM h h1 h2 ht;clear h h1 h2 ht;go_enter func42,ntmps42;go_upto_region 5 with fail;obtain⟨zb,hzb⟩:∃z,w.heap.size=z:=⟨_,rfl⟩
 have hV:Vd w A1 c1 A2 c2 T Lv (zb+1) (zb+1+1) 0 (((w.alloc (D #[G A1 T.length c1,G A2 Lv.length c2] 56)).alloc (.map #[] 0)).alloc (.map #[] 0)):=by
  obtain⟨X1,e1⟩:∃Y,Y=w.alloc (D #[G A1 T.length c1,G A2 Lv.length c2] 56):=⟨_,rfl⟩;obtain⟨X2,e2⟩:∃Y,Y=X1.alloc (.map #[] 0):=⟨_,rfl⟩;obtain⟨X3,e3⟩:∃Y,Y=X2.alloc (.map #[] 0):=⟨_,rfl⟩;rw[<-e1,<-e2,<-e3];have s1:X1.heap.size=zb+1:=by rw[e1];simp[hzb]
  have s2:X2.heap.size=zb+1+1:=by rw[e2];simp[s1]
  have b1:=iI.new yl prog 9 4 X1;rw[<-e2,s1] at b1;have b2:=iI.new yt prog 63 4 X2;rw[<-e3,s2] at b2;have n1:nh (T.take 0)=λ _=>U:=by funext x;simp[nh]
  have n2:nh (Lv.take (lN T 0))=λ _=>U:=by funext x;simp[nh,lN]
  refine⟨by rw[e3,e2,e1];exact ay (ay (aj _ _) _) _,by rw[e3,e2,e1];exact((au _ _ _ _ rfl).alloc _).alloc _,?_,?_,ar,ar,ar⟩
  · rw[n1]
    exact b1.below (by rw[e3];exact aj _ _)
  · rw[n2]
    exact b2
 subst hzb;refine forget (λ X=>Vd w A1 c1 A2 c2 T Lv (w.heap.size+1) (w.heap.size+1+1) 0 X) hV ?_;clear hV;generalize hkm:w.heap.size+1+1=dm at *;generalize JL:w.heap.size+1=km at *;clear hkm JL;rintro X hV;obtain⟨cb,lb⟩:=hV.tb.cl0;have HV:=aG hV;clear hV
 have hcb:∀j,lN T j<=20000:=λ j=>by
  unfold lN;have h1:=ei Wj (T.take j);have h2:(T.take j).length<=T.length:=by rw[dh];omega
  omega
 go_wp2_with fail;go_loopw [5,25] (λ lf i wr=>∃(j:Nat),j<=T.length/\i=I J j/\lf=I J (lN T j:Nat)/\Vd w A1 c1 A2 c2 T Lv km dm j wr) (λ _ i _=>T.length - (intOf i).toNat)
 case atStart=>exact⟨0,ak _,rfl,rfl,HV.o⟩
 case round=>
  clear HV cb lb;obtain⟨j,hj,rfl,rfl,hV⟩:=hrel;generalize wr=wA at *;by_cases hlt:j<T.length
  · have rE:(j:Int)<(T.length:Int):=ar
    obtain⟨nd,nJ⟩:∃nd,T[j]?=O nd:=⟨_,af hlt⟩;obtain⟨bN,oN,A3,q3,A4,q4,rfl,vI,m0,m1,m2,m3,Ai,Qq,hc3,Ov,f3,f4⟩:=mS HH.q2 nJ;have m0:=(hV.low.cell (p:=⟨bN,oN+j*4,U⟩) vI).trans m0;have m1:=(hV.low.cell (p:=⟨bN,oN+j*4+1,U⟩) vI).trans m1;have m2:=(hV.low.cell (p:=⟨bN,oN+j*4+2,U⟩) vI).trans m2;have m3:=(hV.low.cell (p:=⟨bN,oN+j*4+3,U⟩) vI).trans m3;have hbl:bN<wA.heap.size:=by have :=hV.low.size;omega
    have HN:=yJ nJ Ai Qq hc3 Ov f3 f4;have HV:=aG hV;clear nJ Ai Qq hc3 Ov f3 f4 hV;go_upto_region 8 with fail;have hkb:=Kv HH.q1 hZ HN.q1
    have hlen:∀l∈ [nd.cJ,cV nd.kids,[(nd.attr:Int),(nd.leaf:Int)]],l.length<=1000000:=λ l hl=>by
     simp only[aR,bH,or_false] at hl;rcases hl with rfl|rfl|rfl
     · omega
     · rw[dy];omega
     · simp
    go_upto_region 9 with(go_at_call 38;(refine(Cz _ [nd.cJ,cV nd.kids,[(nd.attr:Int),(nd.leaf:Int)]] 3 3 rfl _ _ (akh (t:=117) (t':=3) HN.q2 HN.q4 HN.q3 HN.q5 (dy _) (aq HV.o.low dE) (au _ _ _ _ bY) ((au _ _ _ _ bY).alloc _) HN.q6 HN.t6) (ah _) ar hlen (HH.t3.below (aq HV.o.low dE))).mono ?_;rintro e w2 ⟨rfl,hb⟩;have HB:=aG hb;clear hb))
    have xV:(jE [nd.cJ,cV nd.kids,[(nd.attr:Int),(nd.leaf:Int)]]).length<=220000010:=by
     have :=uM (ls:=[nd.cJ,cV nd.kids,[(nd.attr:Int),(nd.leaf:Int)]]) (m:=1000000) hlen (λ l hl x hx=>by
      simp only[aR,bH,or_false] at hl;rcases hl with rfl|rfl|rfl
      · obtain⟨i,hi,rfl⟩:=bo.1 hx
        obtain⟨_,_,_,_,_,⟨_,q1,q2⟩,_⟩:=HN.q2 i hi;exact⟨q1,q2⟩
      · obtain⟨i,hi,rfl⟩:=bo.1 hx
        obtain⟨_,_,_,_,_,⟨_,q1,q2⟩,_⟩:=HN.q3 i hi;exact⟨q1,q2⟩
      · simp only[aR,bH,or_false] at hx
        rcases hx with rfl|rfl
        · exact HN.q6
        · exact HN.t6)
     simp at this;omega
    obtain⟨xb,J5⟩:∃x,wA.heap.size=x:=⟨_,rfl⟩
    have hY:Vd w (O ⟨bN,oN,U⟩) c1 A2 c2 T Lv km dm j w2/\Bk w2 xb #[I J nd.attr,G A3 nd.cJ.length q3,G A4 nd.kids.length q4,I J nd.leaf] 121/\w.heap.size<=xb:=by have hb2:aZ wA w2:=aq dE HB.o;have hV:=HV.o;exact⟨⟨aq hV.low hb2,hV.tb.below hb2,hV.known.below hb2,hV.dec.below hb2,hV.kw,hV.dw,hV.kd⟩,Bk.sj (((au _ _ _ _ J5).alloc _).alloc _) HB.o gW,by have :=hV.low.size;omega⟩
    obtain⟨S,hS⟩:∃S:BA0,(⟨(jE [nd.cJ,cV nd.kids,[(nd.attr:Int),(nd.leaf:Int)]]).toArray⟩:BA0)=S:=⟨_,rfl⟩;rw[hS,J5];have hkey:keyOf prog 9 (.string S)=O (yl nd):=by rw[<-hS];exact TH (by unfold maxLen;omega)
    refine forget (λ Y=>Vd w (O ⟨bN,oN,U⟩) c1 A2 c2 T Lv km dm j Y/\Bk Y xb #[I J nd.attr,G A3 nd.cJ.length q3,G A4 nd.kids.length q4,I J nd.leaf] 121/\w.heap.size<=xb) hY ?_;have HKY:=aG hkey;clear hY J5 hS hkey HB HV xV hlen m0 m1 m2 m3 hbl;clear w2 wA;rintro Y ⟨hV,hx,hxw⟩;obtain⟨cx,lx⟩:=hx.cl0;obtain⟨cb,lb⟩:=hV.tb.cl0;have hni:(nh (T.take j) nd)=U:=if_neg (AE HH.q1.nodup HN.q1);have ZQ:=MF (O ⟨bN,oN,U⟩) A2 A3 A4 c1 c2 q3 q4 T Lv.length nd Y (HH.q2.keep hV.low hV.low.size) HH.q1.le (HH.q1.form j nd HN.q1) (by rw[HH.q1.leaves];exact hcb _) (HN.q2.keep hV.low hV.low.size) (HN.q3.keep hV.low hV.low.size);have HV:=iM hV hx hni ZQ;clear hV hx hni ZQ
    go_upto_region 11 with(first
     |(at_lookup;refine mg rfl _ _ _ rfl 9 4 lV mE dW aV rfl HV.q1.known _ nd rfl HKY.o ?_;rw[HV.q3])
     |(go_at_call 90;refine HV.t3.mono ?_;rintro e w3 ⟨rfl,hb⟩;have HB:=aG hb;clear hb))
    go_upto_region 12 with(at_mapUpdate;refine lT rfl _ _ _ _ rfl 9 4 lV mE dW J6 (by unfold maxLen;omega) rfl (HV.q1.known.below HB.o) _ nd rfl HKY.o true gC ?_;intro w4 hm4 ho4;have HM:=dt hm4 ho4;clear hm4 ho4)
    have hap:xb≠km/\w.heap.size≠km:=by
     have key:∀{g:Nat}{C:Array R}{t:TypeId},Bk Y g C t->g≠km:=λ hb e=>by subst e;obtain⟨aak,⟨es,clock,hh,_⟩,_⟩:=HV.q1.known;have :=aO (hh.symm.trans hb);cases this
     exact⟨key HV.q2,key HV.q1.tb⟩
    have hY:aZ w w4/\Bk w4 w.heap.size #[G (O ⟨bN,oN,U⟩) T.length c1,G A2 Lv.length c2] 56/\iI yl prog 9 4 w4 km (j+1) (nh (T.take (j+1)))/\iI yt prog 63 4 w4 dm (lN T j) (nh (Lv.take (lN T j)))/\Bk w4 xb #[I J nd.attr,G A3 nd.cJ.length q3,G A4 nd.kids.length q4,I J nd.leaf] 121:=by
     have hm:=HM.q1;rw[HV.q3] at hm;have EY:iI yl prog 9 4 w4 km (j+1) (YtbcpcneadjcmlaaGreatDoor.u7 (nh (T.take j)) nd true):=hm;rw[Gk] at EY;have ht:T.take j++[nd]=T.take (j+1):=by rw[bu,HN.q1];rfl
     rw[ht] at EY;exact⟨(aq HV.q1.low HB.o).trans (HM.t1.aK (λ g hg=>by rw[hg];exact HV.q1.kw) (aq HV.q1.low HB.o).size),(HV.q1.tb.below HB.o).only HM.t1 hap.2,EY,(HV.q1.dec.below HB.o).only HM.t1 (λ e=>HV.q1.kd e.symm),(HV.q2.below HB.o).only HM.t1 hap.1⟩
    have hvk:=HV.q1.kw;have hvd:=HV.q1.dw;have hve:=HV.q1.kd;refine forget (λ V=>aZ w V/\Bk V w.heap.size #[G (O ⟨bN,oN,U⟩) T.length c1,G A2 Lv.length c2] 56/\iI yl prog 9 4 V km (j+1) (nh (T.take (j+1)))/\iI yt prog 63 4 V dm (lN T j) (nh (Lv.take (lN T j)))/\Bk V xb #[I J nd.attr,G A3 nd.cJ.length q3,G A4 nd.kids.length q4,I J nd.leaf] 121) hY ?_;clear hY HM HB hap cb lb cx lx HV;clear w4 Y;rintro V ⟨k1,k2,k3,k4,k5⟩;obtain⟨cb,lb⟩:=k2.cl0;obtain⟨cx,lx⟩:=k5.cl0;have HV:=lQ k1 k2 k3 k4 k5;clear k1 k2 k3 k4 k5;by_cases hk:nd.kids=[]
    · have Ou:(nd.kids.length:Int)=0:=by rw[hk];rfl
      have vw:Wj nd=true:=by unfold Wj;rw[hk];rfl
      have hcs:lN T (j+1)=lN T j+1:=by rw[zK HN.q1,vw];rfl
      have hle:nd.leaf=lN T j:=HH.q1.leaf j nd HN.q1 hk;have JH:(nd.leaf:Int)=(lN T j:Int):=by rw[hle]
      have mW:lN T j<Lv.length:=by have h1:lN T (j+1)<=lN T T.length:=Qp T ar;have h2:=HH.q1.leaves;omega
      obtain⟨c,hc⟩:∃c,lN T j=c:=⟨_,rfl⟩;obtain⟨d,hd⟩:∃d,Lv[c]?=O d:=⟨_,af ar⟩;obtain⟨bL,oL,rfl,Ge,hL⟩:=Il HH.q3 hd;have hL2:∀i u,d.1.toArray[i]?=O u->V.cell? ⟨bL,oL+c*16+i,U⟩=O u:=λ i u h=>(HV.q1.cell (p:=⟨bL,oL+c*16+i,U⟩) Ge).trans (hL i u h);have hno:nh (Lv.take c) d=U:=if_neg (AE HH.q1.dec hd);have arc:=hcb j;clear hcb;have HC:=iM hcs hd hL2 hno;have hcB:c<=20000:=ar;have ard:(nd.leaf:Int)=(c:Int):=by rw[JH,hc]
      have hcI:(c:Int)<(Lv.length:Int):=ar;rw[hc];rw[hc] at HV;clear hcs vw hk hle JH hd hL hL2 hno mW
      go_upto_region 15 with(first
       |(refine E3 (o:=⟨O 65,_,_,_,_,_⟩) (by rfl) _ _ rfl bL (oL+c*16) rfl d.1.toArray _ HC.q3 gH rfl (Cb d) ?_)
       |(refine MH (o:=⟨O 66,_,_,_,_,_⟩) (by rfl) _ _ _ rfl 63 4 zI underlying213 dW aV rfl HV.q4 _ d rfl (uv d) ?_;rw[HC.t3]))
      go_upto_region 16 with(first
       |(refine dM (o:=⟨O 73,_,_,_,_,_⟩) rfl _ _ rfl bL (oL+c*16) rfl d.1.toArray _ HC.q3 gH rfl (Cb d) ?_)
       |(at_mapUpdate;refine lT (m:=c) (f:=nh (Lv.take c)) rfl _ _ _ _ rfl 63 4 zI underlying213 dW Ki (by unfold maxLen;omega) rfl HV.q4 _ d rfl (uv d) true gC ?_;intro w5 hm5 Zz;have HM:=dt hm5 Zz;clear hm5 Zz))
      have hap:xb≠dm/\w.heap.size≠dm:=by
       have key:∀{g:Nat}{C:Array R}{t:TypeId},Bk V g C t->g≠dm:=λ hb e=>by subst e;obtain⟨aak,⟨es,clock,hh,_⟩,_⟩:=HV.q4;have :=aO (hh.symm.trans hb);cases this
       exact⟨key HV.t4,key HV.q2⟩
      have hY:Vd w (O ⟨bN,oN,U⟩) c1 (O ⟨bL,oL,U⟩) c2 T Lv km dm (j+1) w5:=by
       have hm:=HM.q1;rw[HC.t3] at hm;have EY:iI yt prog 63 4 w5 dm (c+1) (YtbcpcneadjcmlaaGreatDoor.u7 (nh (Lv.take c)) d true):=hm;rw[Gk] at EY;have ht:Lv.take c++[d]=Lv.take (c+1):=by rw[bu,HC.q2];rfl
       rw[ht,<-hc,<-HC.q1] at EY;exact⟨HV.q1.trans (HM.t1.aK (λ g hg=>by rw[hg];exact hvd) HV.q1.size),HV.q2.only HM.t1 hap.2,HV.q3.only HM.t1 hve,EY,hvk,hvd,hve⟩
      have HY:=aG hY;clear hY HM hap;have hcs:=HC.q1;go_wp2_with fail;go_roundw
      case rel=>exact⟨j+1,ar,gC,by rw[hcs,hc];go_num,HY.o⟩
      case measure=>simp[intOf];omega
    · as_aux_lemma=>
      have Ou:¬(nd.kids.length:Int)=0:=by have :=iY.2 hk;omega
      have vw:Wj nd=false:=by unfold Wj;rw[Bool.eq_false_iff];exact λ e=>hk (List.isEmpty_iff.1 e)
      have hcs:lN T (j+1)=lN T j:=by rw[zK HN.q1,vw];rfl
      have HC:=aG hcs;clear hcs vw hk;go_wp2_with fail;go_roundw
      case rel=>exact⟨j+1,ar,gC,by rw[HC.o],⟨HV.q1,HV.q2,HV.q3,by rw[HC.o];exact HV.q4,hvk,hvd,hve⟩⟩
      case measure=>simp[intOf];omega
  · obtain rfl:j=T.length:=ar
    have rE:¬(T.length:Int)<(T.length:Int):=ar;obtain⟨cb,lb⟩:=hV.tb.cl0;have HV:=aG hV;clear hV;obtain⟨nb,nS⟩:∃z,wA.heap.size=z:=⟨_,rfl⟩;have hnw:w.heap.size<nb:=by rw[<-nS];exact lb
    have hlv:(lN T T.length:Int)=(Lv.length:Int):=by rw[HH.q1.leaves]
    rw[hlv];have hN:T.length<=1099511627776:=ar;have hI0:Yh nb [] (λ g=>g=nb) (wA.alloc (D #[I J 0] 3)):=⟨0,au _ _ _ _ nS,ah _,λ _=>rfl,λ _=>Iff.rfl⟩;have HI:=aG hI0;clear hI0;go_upto_region 20 with(go_at_call 88;refine(abq w T (Yh nb) nb (abB nb) (Yi w T nb hN) (MI HH.q1) (MJ HH.q1) hN A1 c1 HH.q2 0 ar (λ g=>g=nb) _ (aq HV.o.low dE) HI.o (λ g hg=>ar)).mono ?_;rintro e w6 ⟨rfl,IM,hJ,ho,_⟩;have HB:=dt hJ ho;clear hJ ho);have hbl:aZ w (wA.alloc (D #[I J 0] 3)):=aq HV.o.low dE
    have hY:aZ w w6/\Bk w6 nb #[I J (T.length:Nat)] 3/\Bk w6 w.heap.size #[G A1 T.length c1,G A2 Lv.length c2] 56:=by obtain⟨k,h1,_,h3,_⟩:=HB.q1;rw[HH.q1.walk] at h3;rw[h3 (by rw[eW]),eW] at h1;exact⟨hbl.trans (HB.t1.aK (λ g hg=>ar) hbl.size),h1,(HV.o.tb.alloc _).only HB.t1 ar⟩
    refine forget (λ V=>aZ w V/\Bk V nb #[I J (T.length:Nat)] 3/\Bk V w.heap.size #[G A1 T.length c1,G A2 Lv.length c2] 56) hY ?_;clear hY HB HI hbl cb lb HV hlv;clear nS;clear w6;rintro V ⟨k1,k2,k3⟩;obtain⟨cb,lb⟩:=k3.cl0;obtain⟨cn,ln⟩:=k2.cl0;have HK:=aG k1;clear k1 k2 k3;have sq:decide ((T.length:Int)=(T.length:Int))=true:=decide_eq_true rfl;go_wp2_with fail;go_ret;exact⟨rfl,HK.o⟩
end
section
open Go.RowKit
section
variable{δ:Type}(lim:Zn)(eE:Fc->δ)
def Kw(T:List Nd)(Lv:List δ)(attr:Nat)(f:Fc)(n:Nat):Prop:=
 n<T.length/\(∀nd,T[n]?=O nd->nd.kids≠ []->attr<=nd.attr)/\∀g,ik lim g->(∀a,a<attr->eO g a=eO f a)->Sem T Lv n g (eE g)
variable{Z:List Zn}{lim eE}{T:List Nd}{Lv:List δ}
theorem Qr(h:mU Z lim eE T Lv)(f:Fc):Kw lim eE T Lv 0 f 0:=
 ⟨h.pos,λ _ _ _=>ak _,λ g hg _=>h.sem g hg⟩
theorem qM{f:Fc}{a b:Nat}(hb:b<f.length)(v:Int):eO (f.set b v) a=if a=b then v else eO f a:=by
 unfold eO;by_cases h:a=b
 · subst h
   rw[if_pos rfl,av,List.getElem?_set_self hb];rfl
 · rw[if_neg h,av,List.getElem?_set_ne (λ e=>h e.symm),<-av]
theorem Kw.skip{attr n:Nat}{f:Fc}(h:Kw lim eE T Lv attr f n)(ha:attr<f.length)(v:Int)(hn:∀nd,T[n]?=O nd->nd.kids≠ []->nd.attr≠attr):Kw lim eE T Lv (attr+1) (f.set attr v) n:=
 ⟨h.1,λ nd h1 h2=>by have :=h.2.1 nd h1 h2;have :=hn nd h1 h2;omega,λ g hg hs=>h.2.2 g hg λ a hlt=>by rw[hs a ar,qM ha,if_neg ar]⟩
theorem Kw.kid(hT:mU Z lim eE T Lv){attr n:Nat}{f:Fc}(h:Kw lim eE T Lv attr f n)(ha:attr<f.length)(v:Int){nd:Nd}(hn:T[n]?=O nd)(hk:nd.kids≠ [])(hat:nd.attr=attr):
 ∃k,nd.kids[gT nd.cJ v]?=O k/\Kw lim eE T Lv (attr+1) (f.set attr v) k:=by
 rcases hT.form n nd hn with⟨qq,_⟩|⟨_,_,_,hl,_,_,_,JL⟩
 · exact absurd qq hk
 · have hlt:gT nd.cJ v<nd.kids.length:=by have :=xI nd.cJ v;omega
   refine⟨nd.kids[gT nd.cJ v],af hlt,(JL _ (cD hlt)).1,λ nk h1 h2=>?_,λ g hg hs=>?_⟩
   · have :=(JL _ (cD hlt)).2 nk h1 h2
     omega
   · obtain⟨l,s,hle,hd⟩:=h.2.2 g hg λ a hlt=>by rw[hs a ar,qM ha,if_neg ar]
     cases hle with
     |leaf h1 h2=>rw[hn] at h1;cases h1;exact absurd h2 hk
     |node h1 h2 r=>
      rw[hn] at h1;cases h1
      have hv:eO g nd.attr=v:=by rw[hat,hs attr ar,qM ha,if_pos rfl]
      rw[hv,af hlt] at h2;cases h2
      exact⟨l,_,r,hd⟩
theorem Kw.leaf(hT:mU Z lim eE T Lv){n:Nat}{f:Fc}(h:Kw lim eE T Lv 10 f n)(hf:ik lim f):∃nd,T[n]?=O nd/\nd.kids=[]/\Lv[nd.leaf]?=O (eE f):=by
 obtain⟨nd,hn⟩:∃nd,T[n]?=O nd:=⟨_,af h.1⟩
 have hk:nd.kids=[]:=by
  rcases hT.form n nd hn with⟨hk,_⟩|⟨ha,_⟩
  · exact hk
  · refine Classical.byContradiction λ hk=>?_
    have :=h.2.1 nd hn hk;omega
 obtain⟨l,s,hle,hd⟩:=h.2.2 f hf λ _ _=>rfl;cases hle with
 |leaf h1 h2=>rw[hn] at h1;cases h1;exact⟨nd,hn,hk,hd⟩
 |node h1 h2 r=>rw[hn] at h1;cases h1;rw[hk] at h2;cases h2
end
end
section
open Go.RowKit Go.Maps
attribute [local go_sem] aQ aC bW
def Ow(A:dB)(n cap:Nat)(A1:dB)(nT c1:Nat)(A2:dB)(nL c2:Nat)(f:Fc)(mb:Nat):Array R:=
 (([G A n cap,G A1 nT c1,G A2 nL c2]:List R)++(fL aP++(oI f++([.map (O mb)]:List R)))).toArray
section
variable{A:dB}{n cap:Nat}{A1:dB}{nT c1:Nat}{A2:dB}{nL c2:Nat}{f:Fc}{mb:Nat}
theorem D5(i:Nat)(h:i<3):(Ow A n cap A1 nT c1 A2 nL c2 f mb)[i]?=([G A n cap,G A1 nT c1,G A2 nL c2]:List R)[i]?:=by unfold Ow;rw[dn,bM (by simpa using h)]
theorem Ox(i:Nat)(h:i<20):(Ow A n cap A1 nT c1 A2 nL c2 f mb)[3+i]?=(fL aP)[i]?:=by
 unfold Ow;rw[dn,bP bY,bM (by have h:(fL aP).length=20:=rfl;simp;omega)];congr 1
 simp
theorem Ky(i:Nat)(h:i<10)(hf:f.length=10):(Ow A n cap A1 nT c1 A2 nL c2 f mb)[23+i]?=(oI f)[i]?:=by
 have Ur:(fL aP).length=20:=rfl;unfold Ow;rw[dn,bP gW,bP (by rw[Ur];simp;omega),bM (by rw[Ur,pc];simp;omega)];congr 1
 rw[Ur];simp;omega
theorem Yo(hf:f.length=10):(Ow A n cap A1 nT c1 A2 nL c2 f mb)[33]?=O (.map (O mb)):=by have Ur:(fL aP).length=20:=rfl;unfold Ow;rw[dn,bP bY,bP (by rw[Ur];simp),bP (by rw[Ur,pc,hf];simp)];rw[Ur,pc,hf];rfl
theorem Yp(i:Nat)(h:i<10)(hf:f.length=10)(v:Int):(Ow A n cap A1 nT c1 A2 nL c2 f mb).setIfInBounds (23+i) (I J v)=Ow A n cap A1 nT c1 A2 nL c2 (f.set i v) mb:=by
 have Ur:(fL aP).length=20:=rfl;unfold Ow;rw[dS,List.set_append_right _ _ gW,List.set_append_right _ _ (by rw[Ur];simp;omega),List.set_append_left _ _ (by rw[Ur,pc];simp;omega)];have e:23+i - ([G A n cap,G A1 nT c1,G A2 nL c2]:List R).length - (fL aP).length=i:=by rw[Ur];simp;omega
 rw[e];unfold oI;rw[<-List.map_set]
end
structure Ve where
 W0:agb
 sb:Nat
 mb:Nat
 A:dB
 cap:Nat
 rs:List Rl
 A1:dB
 c1:Nat
 A2:dB
 c2:Nat
 T:List Nd
 Lv:List Dk
structure Ve.st(E:Ve):Prop where
 tabs:nu E.W0
 rules:cG se E.W0 E.W0.heap.size E.A E.rs
 few:E.rs.length<=200
 nodes:cG vH E.W0 E.W0.heap.size E.A1 (E.T.map pA)
 leaves:cG Hm E.W0 E.W0.heap.size E.A2 E.Lv
 tab:mU (bc E.rs) aP (iK E.rs) E.T E.Lv
 val:∀z∈bc E.rs,zG z=true
 wL:(bc E.rs).length<=100000
 s1:E.W0.heap.size<=E.sb
 s2:E.W0.heap.size<=E.mb
structure Ve.ok(E:Ve)(f:Fc)(m:Nat)(X:agb):Prop where
 old:Below E.W0.heap.size E.W0 X
 box:Bk X E.sb (Ow E.A E.rs.length E.cap E.A1 E.T.length E.c1 E.A2 E.Lv.length E.c2 f E.mb) 130
 map:∃g,iI ql prog 9 4 X E.mb m g
 fl:f.length=10
 ff:∀x∈f,fits x
section
variable{E:Ve}{f:Fc}{m:Nat}{X X':agb}
theorem Ve.ok.below(h:E.ok f m X)(hb:aZ X X'):E.ok f m X':=by obtain⟨g,hg⟩:=h.map;exact⟨aq h.old hb,h.box.below hb,⟨g,hg.below hb⟩,h.fl,h.ff⟩
theorem Ve.ok.only{S:Nat->Prop}(hs:E.st)(h:E.ok f m X)(ho:Only S X X')(hS:∀g,S g->E.W0.heap.size<=g/\g≠E.sb/\g≠E.mb):E.ok f m X':=by obtain⟨g,hg⟩:=h.map;exact⟨h.old.trans (ho.aK (λ g hg=>(hS g hg).1) h.old.size),h.box.only ho (λ e=>(hS _ e).2.1 rfl),⟨g,hg.only ho (λ e=>(hS _ e).2.2 rfl)⟩,h.fl,h.ff⟩
theorem Ve.ok.tab(hs:E.st)(h:E.ok f m X):nu X:=hs.tabs.below h.old
theorem Ve.ok.cells(h:E.ok f m X):X.cell? ⟨E.sb,0,U⟩=O (G E.A E.rs.length E.cap)/\X.cell? ⟨E.sb,1,U⟩=O (G E.A1 E.T.length E.c1)/\X.cell? ⟨E.sb,2,U⟩=O (G E.A2 E.Lv.length E.c2)/\X.cell? ⟨E.sb,33,U⟩=O (.map (O E.mb)):=by
 refine⟨?_,?_,?_,?_⟩
 · rw[h.box.cell];exact D5 0 ar
 · rw[h.box.cell];exact D5 1 ar
 · rw[h.box.cell];exact D5 2 ar
 · rw[h.box.cell];exact Yo h.fl
theorem Ve.ok.Us(h:E.ok f m X){a:Nat}(ha:a<10):X.cell? ⟨E.sb,3+a*2,U⟩=O (I J (atR aP a).1)/\X.cell? ⟨E.sb,3+a*2+1,U⟩=O (I J (atR aP a).2):=by
 have hz:=iC (z:=aP) (k:=a) (by rw[rS];exact ha);unfold jY at hz;rw[dn,dn] at hz;refine⟨?_,?_⟩
 · rw[h.box.cell];exact(Ox (a*2) ar).trans hz.1
 · rw[h.box.cell,fu];exact(Ox (a*2+1) ar).trans hz.2
theorem Ve.ok.fact(h:E.ok f m X){a:Nat}(ha:a<10):X.cell? ⟨E.sb,23+a,U⟩=O (I J (eO f a)):=by have hz:=kQ (f:=f) (k:=a) (by rw[h.fl];exact ha);unfold iw at hz;rw[dn] at hz;rw[h.box.cell];exact(Ky a ha h.fl).trans hz
theorem Ve.ok.Qe(hs:E.st)(hne:E.sb≠E.mb)(h:E.ok f m X){a:Nat}(ha:a<10){v:Int}(hv:fits v):E.ok (f.set a v) m (X.setCell ⟨E.sb,23+a,U⟩ (I J v)):=by
 obtain⟨g,hg⟩:=h.map;have ho:Only (λ g=>g=E.sb) X (X.setCell ⟨E.sb,23+a,U⟩ (I J v)):=(Only.refl (λ g=>g=E.sb) X).aS (p:=⟨E.sb,23+a,U⟩) (.inl rfl) _;have hb:=h.box.aS (23+a) (I J v);rw[Yp a ha h.fl] at hb;refine⟨h.old.trans (ho.aK (λ g hg=>by rw[hg];exact hs.s1) h.old.size),hb,⟨g,hg.only ho (λ e=>hne e.symm)⟩,by rw[mD];exact h.fl,λ x hx=>?_⟩;rcases List.mem_or_eq_of_mem_set hx with hx|rfl
 · exact h.ff x hx
 · exact hv
end
theorem Gl(E:Ve)(hs:E.st)(f:Fc)(m n:Nat)(nd:Nd)(attr:Int)(w:agb)(h:E.ok f m w)(hn:E.T[n]?=O nd):
 Calls prog 94 #[M (O ⟨E.sb,0,U⟩),I J (n:Nat),I J attr] w λ e w'=>e=.returned (.bool (decide (0<nd.kids.length)&&decide ((nd.attr:Int)=attr)))/\aZ w w':=by
 obtain⟨bN,oN,A3,q3,A4,q4,hA,vI,m0,m1,m2,m3,_⟩:=mS (hs.nodes.keep h.old h.old.size) hn;have zZ:n<E.T.length:=(ai.1 hn).1;have c1:=h.cells.2.1;have l1:=h.box.lt;obtain⟨sb,oV⟩:∃x,E.sb=x:=⟨_,rfl⟩;obtain⟨nT,MK⟩:∃x,E.T.length=x:=⟨_,rfl⟩;obtain⟨cT,ZT⟩:∃x,E.c1=x:=⟨_,rfl⟩;rw[hA,oV,MK,ZT] at c1;rw[oV] at l1⊢;rw[MK] at zZ;have XW:(n:Int)<(nT:Int):=ar;clear hA oV MK ZT h hn;by_cases hk:0<nd.kids.length
 · as_aux_lemma=>have Ou:(0:Int)<(nd.kids.length:Int):=ar;have vB:decide (0<nd.kids.length)=true:=decide_eq_true hk;rw[vB];go_enter func94,ntmps94;go_wp2_with fail;go_ret;exact⟨rfl,aA _ _⟩
 · as_aux_lemma=>have Ou:¬(0:Int)<(nd.kids.length:Int):=ar;have vB:decide (0<nd.kids.length)=false:=decide_eq_false hk;rw[vB];go_enter func94,ntmps94;go_wp2_with fail;go_ret;exact⟨rfl,aA _ _⟩
theorem Yq(E:Ve)(hs:E.st)(f:Fc)(m n k:Nat)(nd:Nd)(v:Int)(w:agb)(h:E.ok f m w)(hn:E.T[n]?=O nd)(hk:nd.kids[gT nd.cJ v]?=O k)(hv:fits v):
 Calls prog 95 #[M (O ⟨E.sb,0,U⟩),I J (n:Nat),I J v] w (jL (I J (k:Nat)) w):=by
 obtain⟨bN,oN,A3,q3,A4,q4,hA,vI,m0,m1,m2,m3,Ai,Qq,hc3,Ov,_⟩:=mS (hs.nodes.keep h.old h.old.size) hn;have zZ:n<E.T.length:=(ai.1 hn).1;have Fh:gT nd.cJ v<nd.kids.length:=(ai.1 hk).1;have mW:nd.cJ.length<=9223372036854775807:=by unfold maxLen at hc3;omega
 have hcx:=xI nd.cJ v;obtain⟨b4,o4,xk,rfl,hb4,_,Oq,d4,f1,f2⟩:=Qq.fC (k:=gT nd.cJ v) (by rw[dy];exact Fh)
 have XY:xk=(k:Int):=by
  have :=Oq.o;unfold cV at this;rw[bQ,hk] at this;injection this with e
  exact e.symm
 subst XY;have c1:=h.cells.2.1;have l1:=h.box.lt;obtain⟨sb,oV⟩:∃x,E.sb=x:=⟨_,rfl⟩;obtain⟨nT,MK⟩:∃x,E.T.length=x:=⟨_,rfl⟩;obtain⟨cT,ZT⟩:∃x,E.c1=x:=⟨_,rfl⟩;rw[hA,oV,MK,ZT] at c1;rw[oV] at l1⊢;rw[MK] at zZ;have XW:(n:Int)<(nT:Int):=ar;obtain⟨ix,Ob⟩:∃x,gT nd.cJ v=x:=⟨_,rfl⟩;rw[Ob] at Fh d4 hcx;have hxI:(ix:Int)<(nd.kids.length:Int):=ar;have HI:=fH Ai mW Ob;clear hA oV MK ZT h hn hk Ai Qq hc3 Ov mW Oq Ob;go_enter func95,ntmps95;go_upto_region 2 with fail;go_upto_region 3 with(go_at_call 44;refine(afs A3 nd.cJ q3 v w.heap.size _ (HI.q1.keep dE gW) HI.q2 (λ X c hX hc=>Uq c v w.heap.size X (Bk.sj ((au _ _ _ _ rfl).alloc _) hX gW))).mono ?_;rintro e w2 ⟨rfl,hb⟩;have HB:=aG hb;clear hb);obtain⟨nb,nS⟩:∃z,w.heap.size+1=z:=⟨_,rfl⟩
 have hY:aZ w w2/\Bk w2 nb #[I J nd.attr,G A3 nd.cJ.length q3,G (O ⟨b4,o4,U⟩) nd.kids.length q4,I J nd.leaf] 121:=by rw[<-nS];exact⟨aq dE HB.o,Bk.sj (au _ _ _ _ bY) HB.o bY⟩
 rw[nS];refine forget (λ X=>aZ w X/\Bk X nb #[I J nd.attr,G A3 nd.cJ.length q3,G (O ⟨b4,o4,U⟩) nd.kids.length q4,I J nd.leaf] 121) hY ?_;clear hY HB nS;clear w2;rintro X ⟨hX,hb⟩;obtain⟨cb,lb⟩:=hb.cl0;have d4:=(hX.cell (p:=⟨b4,o4+ix,U⟩) hb4).trans d4;have hbl:b4<X.heap.size:=by have :=hX.size;omega
 have HX:=aG hX;clear hX hb;by_cases hlt:ix<nd.cJ.length
 · as_aux_lemma=>
   have Ou:wQ nd.cJ v=(ix:Int):=by unfold wQ;rw[HI.t2,if_pos hlt]
   rw[Ou];have h0:¬(ix:Int)<0:=ar;clear Ou;go_wp2_with fail;go_ret;exact⟨rfl,HX.o⟩
 · as_aux_lemma=>
   have Ou:wQ nd.cJ v= -1:=by unfold wQ;rw[HI.t2,if_neg hlt]
   have Ut:nd.cJ.length=ix:=ar;rw[Ou];rw[Ut] at cb;clear Ou Ut;go_wp2_with fail;go_ret;exact⟨rfl,HX.o⟩
end
end Go.Proofs.YtbcpcneadjcmlaaGreatDoor
