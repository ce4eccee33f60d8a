import Derived.Test.YtbcpcneadjcmlaaGreatDoorK05
import Derived.BigRegion
import Derived.Deep.Cut
import Derived.LoopN
import Derived.Maps.OwnIn
import Derived.WalkSmall
namespace Go.Proofs.YtbcpcneadjcmlaaGreatDoor
open Go.Proofs.Tryz
set_option maxRecDepth 100000
set_option maxHeartbeats 16000000
set_option linter.unusedVariables false
set_option linter.unusedSimpArgs false
open Value renaming int→I,slice→G,pointer→M
open IntKind renaming i64→J
open Obj renaming cells→D
open Option renaming some→O,none→U
open Go renaming Value→R,World→agb
open List renaming length→agh
section
open Go.RowKit Go.Shelf
attribute [local go_sem] aQ aC bW
attribute [local go_sem] Oper.semAt_some
theorem uk(B:Nat)(C:Array R)(t:TypeId){β:Type}:Own (λ(_:β) W=>Bk W B C t):=λ s X Y row hs hg hrow=>by
 have hs':X.heap[B]?=O (D C t (0,0)):=hs;refine(hg.block B hs.lt (λ e'=>?_)).trans hs;obtain⟨o,ho,hc⟩:=hrow B e'.symm;rw[hs'] at ho;cases ho
 cases hc
theorem JM{α:Type}{T:Ty α}{e:TypeId}{X Y:agb}{base B:Nat}{v:R}{qs:List α}{row:Option Nat}(hT:Flat T)(h:cH T e X base B v qs)(hg:X.grownBy Y row)(hr:∀r,row=O r->∃o:Obj,X.heap[r]?=O o/\o.isCells=false):cH T e Y base B v qs:=by
 obtain⟨css,h1,h2,h3⟩:=h;refine⟨css,h1,λ i a b=>hT (h2 i a b),ee h3 ((Only.refl (λ g=>row=O g) X).grown hg (λ g e=>.inl e)) (λ g II e=>?_)⟩;obtain⟨o,ho,hc⟩:=hr g e;rcases h3.2 with⟨rfl,_⟩|⟨g',cap,cur,rfl,_,hb,_⟩
 · simp[Value.ownBlock] at II
 · simp only[Value.ownBlock,cQ] at II
   subst II;rw[hb] at ho;cases ho
   cases hc
theorem js{X:agb}{base:Nat}{e:TypeId}{size:Nat}{v:R}{n:Nat}{xs:List R}(h:X.ownsRow base e size v n xs):∀g,v.ownBlock=O g->∃C,Bk X g C e:=λ g hg=>by
 rcases h.2 with⟨rfl,_⟩|⟨g',cap,cur,rfl,_,hb,_⟩
 · simp[Value.ownBlock] at hg
 · simp only[Value.ownBlock,cQ] at hg
   subst hg;exact⟨_,hb⟩
theorem fj{w:agb}{b:Nat}{C C':Array R}{t t':TypeId}(h:Bk w b C t)(h':Bk w b C' t'):t=t':=by
 have e:O (Obj.cells C t (0,0))=O (Obj.cells C' t' (0,0)):=(show w.heap[b]?=_ from h).symm.trans h';cases e
 rfl
def JN(x:Tok):List R:=[I J x.1,.string x.2.1,I J x.2.2.1,I J x.2.2.2]
def SH(w:agb)(rb eb ab ob:Nat)(bs:BA0)(T:List Tk)(pre:List (Fin T.length))(W:agb):Prop:=
 (∃v,Bk W ob #[v] 176/\cH Jq 234 W (ob+1) 0 v (pre.map λ x=>T[x.1].tok bs))/\Bk W rb #[G U 0 0] 176/\Bk W eb #[I J 0] 57/\Bk W ab #[I J 0] 3/\aZ w W
theorem EW(n tb cb:Nat)(bs:BA0)(T:List Tk)(W0:agb)(hT:chainB bs 0 T=true)(hs:bs.size<=1000000)(hL:Lx W0 bs tb cb):
 SeqStopsK Fence.wide n prog 188 #[M (O ⟨tb,0,U⟩),M (O ⟨cb+1,0,U⟩)] (λ x:Fin T.length=>#[.agg (tkV bs T[x.1])]) PA (λ ys=>ys.map (·.1)=List.range T.length) (λ _=>True) T.length W0:=
 λ l aae Jx W hW hJ _ hY h0=>LW n l tb cb bs T hT hs aae Jx hY W hJ (hL.kp (ku hW)) h0
theorem SH.alloc{w W:agb}{rb eb ab ob:Nat}{bs:BA0}{T:List Tk}{pre:List (Fin T.length)}(h:SH w rb eb ab ob bs T pre W)(o:Obj):SH w rb eb ab ob bs T pre (W.alloc o):=by obtain⟨⟨v,h1,h2⟩,h3,h4,h5,h6⟩:=h;exact⟨⟨v,h1.alloc _,h2.below (aj _ _) (ak _)⟩,h3.alloc _,h4.alloc _,h5.alloc _,h6.alloc h6.size _⟩
theorem aaN{t:Tk}{bs:BA0}(h:0<=t.kind/\t.kind<=3/\0<=t.n/\t.n<=1000000/\t.s<=20000)(hs:bs.size<=20000)(X:agb)(B:Nat):Jq.rd X B (JN (t.tok bs)) (t.tok bs):=
 ⟨[I J t.kind],_,rfl,⟨rfl,by show _<=t.kind;omega,by show t.kind<=_;omega⟩,[.string (bs.extract t.s t.e)],_,rfl,⟨rfl,by show(bs.extract t.s t.e).size<=_;rw[ByteArray.size_extract];omega⟩,[I J t.n],[I J t.s],rfl,⟨rfl,by show _<=t.n;omega,by show t.n<=_;omega⟩,⟨rfl,by show _<=(t.s:Int);omega,by show(t.s:Int)<=_;omega⟩⟩
theorem NU(bs:BA0)(T:List Tk)(hT:chainB bs 0 T=true)(hs:bs.size<=20000)(hl:T.length<=5000)(hf:∀t∈T,0<=t.kind/\t.kind<=3/\0<=t.n/\t.n<=1000000/\t.s<=20000)(w:agb):
 Calls prog 70 #[.string bs] w (Pu (T.map (Tk.tok bs)) w):=by
 have hlen:¬(20000:Int)<(bs.size:Int):=ar;refine(callsIn_wide (n:=6)).1 ?_;refine callsIn_of_wp_marks func70 rfl trivial ?_ rfl;simp only[ntmps70,List.size_toArray,bD,dG,Nat.reduceAdd,Nat.reduceSub,Array.replicate_succ,Array.replicate_zero,List.push_toArray,lu,eV,eU];gi_wp2_with (refine⟨trivial,?_⟩;gi_at_call 144;refine(callsIn_wide.2 (LV bs _)).mono ?_;rintro e w3 ⟨cb,rfl,hL,hcb,hb⟩;have HL:=fH hL hcb hb;clear hL hcb hb)
 obtain⟨rb,kS⟩:∃x,w.heap.size=x:=⟨_,rfl⟩;obtain⟨eb,zh⟩:∃x,rb+1=x:=⟨_,rfl⟩;obtain⟨ab,hab⟩:∃x,eb+1=x:=⟨_,rfl⟩;obtain⟨ob,oJ⟩:∃x,ab+1=x:=⟨_,rfl⟩;have hb:=HL.t2;have k1:=((((Bk.new w #[G U 0 0] 176).alloc (D #[I J 0] 57)).alloc (D #[I J 0] 3)).alloc (D #[G U 0 0] 176)).below hb;have k2:=(((au (w.alloc (D #[G U 0 0] 176)) eb #[I J 0] 57 gW).alloc (D #[I J 0] 3)).alloc (D #[G U 0 0] 176)).below hb;have k3:=((au ((w.alloc (D #[G U 0 0] 176)).alloc (D #[I J 0] 57)) ab #[I J 0] 3 gW).alloc (D #[G U 0 0] 176)).below hb;have k4:=(au (((w.alloc (D #[G U 0 0] 176)).alloc (D #[I J 0] 57)).alloc (D #[I J 0] 3)) ob #[G U 0 0] 176 gW).below hb;have ml:aZ w w3:=aq dE hb;obtain⟨tb,uG⟩:∃x,ob+1=x:=⟨_,rfl⟩;have aec:((((w.alloc (D #[G U 0 0] 176)).alloc (D #[I J 0] 57)).alloc (D #[I J 0] 3)).alloc (D #[G U 0 0] 176)).heap.size=tb:=by simp;omega
 have hLx:=HL.q1;rw[aec] at hLx;have hz3:=hLx.t.lt;rw[kS] at k1;have HK:=yK k1 k2 k3 k4 ml hLx hT hf;have HN:=lQ kS zh hab oJ uG;rw[kS,zh,hab,oJ,uG];have hwr:w.heap.size+4<w3.heap.size:=ar;have hn:rb<eb/\eb<ab/\ab<ob/\ob<tb:=ar;clear k1 k2 k3 k4 ml hLx aec kS zh hab oJ uG hb HL hT hf;have i0:SH w rb eb ab ob bs T [] w3:=⟨⟨G U 0 0,HK.q4,cH.nil⟩,HK.q1,HK.q2,HK.q3,HK.q5⟩;obtain⟨r1,r2,r3,r4⟩:=hn
 refine wpIn_rangeFunc_ownH rfl ar (gf:=188) (lb:=#[M (O ⟨tb,0,U⟩),M (O ⟨cb+1,0,U⟩)]) rfl trivial (enters_of func188 aV rfl)
  (EW (6 - 1) tb cb bs T w3 HK.q7 ar HK.q6) qB ad9 (aA _ _) (λ _=>rfl)
  (SH w rb eb ab ob bs T) (λ _ _ _=>False) ?hI ?hIx i0
  (λ x a' W=>∃B3,ob<B3/\Bk W B3 (tkV bs T[x.1]) 272/\
   a'= {tmps:=#[.string bs,undef,M (O ⟨rb,0,U⟩),M (O ⟨eb,0,U⟩),M (O ⟨ab,0,U⟩),M (O ⟨ob,0,U⟩),M (O ⟨B3,0,U⟩),.string bs,I J bs.size,.bool false,.string bs,.func (.func 188) #[] #[M (O ⟨tb,0,U⟩),M (O ⟨cb+1,0,U⟩)],
    .agg (tkV bs T[x.1]),undef,undef,undef,undef,undef,undef,undef,undef,undef,undef,undef,undef,undef,undef,undef,undef,undef,undef,undef,undef,undef,undef],defers:=[]})
  ?hAx ?assign ?body ?done ?stop
 case hI=>rintro pre X Y row ⟨⟨v,h1,h2⟩,h3,h4,h5,h6⟩ hg hr;have hr2:=λ r e=>(hr r e).2;exact⟨⟨v,uk _ _ _ (β:=Unit) () X Y row h1 hg hr2,JM mL h2 hg hr2⟩,uk _ _ _ (β:=Unit) () X Y row h3 hg hr2,uk _ _ _ (β:=Unit) () X Y row h4 hg hr2,uk _ _ _ (β:=Unit) () X Y row h5 hg hr2,h6.grown hg h6.size (λ r e=>by have :=(hr r e).1;omega)⟩
 case hIx=>exact λ c=>ownFrom_pure _ _
 case hAx=>rintro x a' _ X Y row ⟨B3,h1,h2,h3⟩ hg hr;exact⟨B3,h1,uk _ _ _ (β:=Unit) () X Y row h2 hg (λ r e=>(hr r e).2),h3⟩
 case assign=>rintro l pre x W K i1 hK;unfold tkV;gi_wp2;exact hK _ _ ((KeepsOthers.alloc _ _).from _) (ku (aj _ _)) (i1.alloc _) ⟨W.heap.size,i1.1.choose_spec.1.lt,Bk.new _ _ _,rfl⟩
 case body=>
  rintro l pre x a' W hl _ ⟨⟨v,h1,h2⟩,h3,h4,h5,h6⟩ ⟨B3,g3,g4,rfl⟩ hlt;obtain⟨t,ht⟩:∃t,T[x.1]=t:=⟨_,rfl⟩;have hft:=HK.t7 t (by rw[<-ht];exact cD _);rw[ht] at g4⊢;unfold tkV at g4⊢;obtain⟨A,c,rfl,hc1,hc2⟩:=h2.form;obtain⟨css,q1,q2,q3⟩:=h2;have hlp:(pre.map λ x=>T[x.1].tok bs).length=pre.length:=bB _;rw[hlp] at h1 q3 hc1;have hp5:¬(pre.length:Int)=5000:=ar;have co:=h1.cell 0;have lo:=h1.lt;have fo:=h1.free 0;obtain⟨cg,lg⟩:=g4.cl0;obtain⟨i0,Q6,hz0,hz1,hz2⟩:=info_parts (show(prog.info? 234).map (λ i=>(i.zero,i.size,i.bytes))=O (O (.agg #[I J 0,.string ⟨#[]⟩,I J 0,I J 0]),4,40) from aV);have HB:=Wo h1 q3 h3 h4 h5 h6 q1 q2 hft ht;clear h1 q3 h3 h4 h5 h6 q1 q2 g4 hft ht;have hown:∀g,(G A pre.length c).ownBlock=O g->ob+1<=g/\g<W.heap.size:=λ g hg=>jd HB.q2 hg;have HO:=aG hown;clear hown;gi_wp2_with (gi_at_builtin;refine wpListIn_append_own_at _ (by rfl) _ _ 176 (by rfl) (ob+1) 234 i0 _ 4 40 underlying176 Q6 hz0 hz1 hz2 rfl cj _ _ _ (by rfl) (ee (S:=λ _=>False) HB.q2 ((Only.refl _ _).alloc _) (λ _ _ q=>q)) ⟨W.heap.size,0,U⟩ 1 1 (JN (t.tok bs)) (by rfl) (by rfl) (λ j u hu=>(by rw[Addr.add_lit,bX];exact((Bk.new W (JN (t.tok bs)).toArray 234).cell j).trans (by simpa using hu))) (by intro u hu;simp only[JN,aR,bH,or_false] at hu;rcases hu with rfl|rfl|rfl|rfl<;>rfl) (by unfold maxLen;omega) ar gW ?_;intro v' w1 hown' hgrow _ _;obtain⟨A',c',rfl,-,-⟩:=fM hown';have HG:=dt hown' hgrow;have SI:Bk w1 ob #[G A pre.length c] 176:=(hgrow.block ob gW (λ e=>by have :=(HO.o ob e.symm).1;omega)).trans (HB.q1.alloc _);have co1:=SI.cell 0;have lo1:=SI.lt;have fo1:=SI.free 0;have HO1:=aG SI;clear hown' hgrow SI)
  have hwA:aZ W (W.alloc (D (JN (t.tok bs)).toArray 234)):=aj _ _;have pD:=js HB.q2;have hoW:Only (λ g=>g=ob\/(G A pre.length c).ownBlock=O g) W w1:=(aw hwA).grown HG.t1 (λ g e=>.inl (.inr e));have hoN:Only (λ g=>g=ob\/(G A pre.length c).ownBlock=O g) W (w1.setCell ⟨ob,0,U⟩ (G A' (pre.length+1) c')):=hoW.aS (p:=⟨ob,0,U⟩) (.inl (.inl rfl)) _;have SJ:∀{k:Nat}{aak:Array R}{ty:TypeId},Bk W k aak ty->k<ob->Bk (w1.setCell ⟨ob,0,U⟩ (G A' (pre.length+1) c')) k aak ty:=λ hk hlt=>hk.only hoN (λ q=>q.elim (λ e=>ar) (λ e=>by have :=(HO.o _ e).1;omega));have aiL:=HN.q1;refine⟨?_,⟨hoN.size,λ k aak ty hk n1 n2=>hk.only hoN ?_⟩,⟨G A' (pre.length+1) c',HO1.o.aS 0 _,?_⟩,SJ HB.q3 ar,SJ HB.q4 ar,SJ HB.q5 ar,?_⟩
  · refine KeepsOthers.from ((KeepsOthers.alloc W (D (JN (t.tok bs)).toArray 234)).trans ((KeepsOthers.of_grownBy HG.t1 λ j o e ho=>?_).trans (KeepsOthers.setCell _ _ _))) _
    obtain⟨C,hC⟩:=pD j e;have h2:=(hC.alloc (D (JN (t.tok bs)).toArray 234)).symm.trans ho;cases h2
    rfl
  · rintro(rfl|e)
    · exact n2 (fj hk HB.q1)
    · obtain⟨C,hC⟩:=pD k e
      exact n1 (fj hk hC)
  · refine⟨css++[JN (t.tok bs)],?_,?_,?_⟩
    · simp only[ax,bB,bD,dG]
      have :=HB.q7;simp only[bB] at this;omega
    · intro i a b
      by_cases hi:i<css.length
      · have Jg:i<(pre.map λ x=>T[x.1].tok bs).length:=by rw[<-HB.q7];exact hi
        rw[fO hi];simp only[dH];rw[fO Jg];exact mL (HB.q8 i Jg hi)
      · have hi3:i=css.length:=by simp at b;omega
        subst hi3;rw[fG (ah _)];simp only[dH,aH,aU];rw[fG (by rw[HB.q7];exact ah _)];simp only[HB.q7,Nat.sub_self,List.getElem_cons_zero];rw[HB.t9];exact aaN HB.q9 hs _ _
    · have h:=ee HG.q1 ((Only.refl (λ g=>g=ob) w1).aS (p:=⟨ob,0,U⟩) (.inl rfl) (G A' (pre.length+1) c')) (λ g hg=>by have :=(jd HG.q1 hg).1;omega)
      simp only[bB,ax,bD,dG,List.flatten_append,fZ,List.flatten_nil,dU];exact h
  · exact HB.q6.trans (hoN.aK (λ g q=>q.elim (λ e=>ar) (λ e=>by have :=(HO.o _ e).1;omega)) HB.q6.size)
 case done=>
  rintro aak ys W hD hS ⟨⟨v,h1,h2⟩,h3,h4,h5,h6⟩ hK;obtain⟨A,c,rfl,hc1,hc2⟩:=h2.form;have hyl:ys.length=T.length:=by have :=congrArg agh hS;simpa using this
  have hmap:(ys.map λ x=>T[x.1].tok bs)=T.map (Tk.tok bs):=by
   apply List.ext_getElem
   · simp[hyl]
   · intro i a b
     simp only[jT];have hi:i<ys.length:=by simpa using a
     have hv:(ys[i]).1=i:=by have h:=congrArg (λ l=>l[i]?) hS;simp only[bQ,af hi,ja,List.getElem?_range (show i<T.length from ar)] at h;exact aO h
     simp only[hv]
  rw[hmap] at h1 h2 hc1;have co:=h1.cell 0;have lo:=h1.lt;have cr:=h3.cell 0;have fr:=h3.free 0;have lr:=h3.lt;have ce:=h4.cell 0;have fe:=h4.free 0;have le:=h4.lt;have ca:=h5.cell 0;have fa:=h5.free 0;have la:=h5.lt;have HB:=yJ h1 h2 h3 h4 h5 h6 hc1;have e1:rb≠eb:=ar;have e2:rb≠ab:=ar;have e3:eb≠ab:=ar;have e4:rb≠ob:=ar;have e5:eb≠ob:=ar;have e6:ab≠ob:=ar;clear h1 h2 h3 h4 h5 h6 hc1;gi_wp2;obtain⟨b1,b2,b3,b4,b5,b6,b7⟩:=HB.o;have aiL:=HN.q1
  have ho:Only (λ g=>g=rb\/g=eb\/g=ab) W (((W.setCell ⟨rb,0,U⟩ (G A T.length c)).setCell ⟨eb,0,U⟩ (I J 0)).setCell ⟨ab,0,U⟩ (I J 0)):=
   (((Only.refl (λ g=>g=rb\/g=eb\/g=ab) W).aS (p:=⟨rb,0,U⟩) (.inl (.inl rfl)) _).aS (p:=⟨eb,0,U⟩) (.inl (.inr (.inl rfl))) _).aS (p:=⟨ab,0,U⟩) (.inl (.inr (.inr rfl))) _
  have q1:=((b3.aS 0 (G A T.length c)).far (p:=⟨eb,0,U⟩) e1 (I J 0)).far (p:=⟨ab,0,U⟩) e2 (I J 0);have q2:=((b4.far (p:=⟨rb,0,U⟩) (λ e=>e1 e.symm) (G A T.length c)).aS 0 (I J 0)).far (p:=⟨ab,0,U⟩) e3 (I J 0);have q3:=((b5.far (p:=⟨rb,0,U⟩) (λ e=>e2 e.symm) (G A T.length c)).far (p:=⟨eb,0,U⟩) (λ e=>e3 e.symm) (I J 0)).aS 0 (I J 0);have hK':=(((KeepsOthers.setCell W ⟨rb,0,U⟩ (G A T.length c)).trans (KeepsOthers.setCell _ ⟨eb,0,U⟩ (I J 0))).trans (KeepsOthers.setCell _ ⟨ab,0,U⟩ (I J 0))).same aak _ hK rfl;have q4:=b2.only ho (B:=0) (λ g _=>ak _) (ak _) (λ g hg=>by have :=(b2.lt g hg).1;omega);generalize((W.setCell ⟨rb,0,U⟩ (G A T.length c)).setCell ⟨eb,0,U⟩ (I J 0)).setCell ⟨ab,0,U⟩ (I J 0)=Z at *;refine⟨bY,.inl ⟨_,_,rfl,run_takeDeferred hK',?_⟩⟩;have hr:∀r,O aak=O r->∃o:Obj,Z.heap[r]?=O o/\o.isCells=false:=λ r e=>by cases e;exact⟨_,hK',rfl⟩
  have hg:=grownBy_putObj' Z aak (.deferred U);have p1:=uk _ _ _ (β:=Unit) () _ _ (O aak) q1 hg hr;have p2:=uk _ _ _ (β:=Unit) () _ _ (O aak) q2 hg hr;have p3:=uk _ _ _ (β:=Unit) () _ _ (O aak) q3 hg hr;have p4:=JM mL q4 hg hr;have hbl:aZ w (Z.putObj aak (.deferred U)):=(b6.trans (ho.aK (λ g q=>ar) b6.size)).trans (belowK_b (w:=w) (ah _) Z aak _ _ ar hK' rfl rfl);refine⟨_,ES results70 (p1:=⟨rb,0,U⟩) (p2:=⟨eb,0,U⟩) (p3:=⟨ab,0,U⟩) rfl rfl rfl (p1.R7 underlying176 rfl rfl) (p2.R7 underlying57 rfl rfl) (p3.R7 aJ rfl rfl),?_⟩;refine⟨A,c,by rw[bB];rfl,?_,λ g off e=>?_,b7,hbl⟩
  · exact p4.elems (ak _) (ah _)
  · subst e
    have h9:=p4.lt g rfl
    have h0:off=0:=by
     obtain⟨_,_,_,h3⟩:=p4;rcases h3.2 with⟨e,_⟩|⟨g',cap,cur,e,_⟩
     · cases e
     · cases e;rfl
    omega
 case stop=>rintro aak c pre W _ _ h _;exact h.elim
theorem SK(w:agb):Calls prog 70 #[.string sF] w (Pu dX w):=by have h:=NU sF R2 LH (by decide+kernel) cj cj w;rw[R5] at h;exact h
theorem SL(w:agb):Calls prog 70 #[.string yV] w (Pu xQ w):=by have h:=NU yV R4 LI (by decide+kernel) cj cj w;rw[R6] at h;exact h
theorem aaO(w:agb):Calls prog 20 #[] w λ r W'=>∃v,r=.returned v/\NR w.heap.size W' v/\aZ w W':=Pw w SK
end
section
open Go.RowKit
def NV(t:Ts):Prop:=t.1.size<=1000/\fits t.2.1/\t.2.2.1.size<=1000/\fits t.2.2.2.1/\fits t.2.2.2.2
def SM(x:It):Prop:=fits x.1/\x.2.1.size<=1000/\(∀ts∈x.2.2.1,∀t∈ts,NV t)/\fits x.2.2.2.1/\(fits x.2.2.2.2.1.1/\fits x.2.2.2.2.1.2)/\(fits x.2.2.2.2.2.1.1/\fits x.2.2.2.2.2.1.2)/\fits x.2.2.2.2.2.2
theorem JO{α:Type}{T:Ty α}{e:TypeId}{X:agb}{lo B B2:Nat}{v:R}{qs:List α}(h:cH T e X lo B v qs)(hB:B<=B2)(h2:X.heap.size<=B2):(eF T).rd X B2 [v] qs:=by obtain⟨A,c,rfl,h3,h4⟩:=h.form;exact⟨A,c,rfl,h3,h4,h.elems hB h2⟩
theorem nX.rows{lo:Nat}{X:agb}{v:R}{ts:List Ts}(h:nX lo X v ts)(hf:∀t∈ts,NV t):cH Fs 109 X lo 0 v ts:=by refine⟨ts.map za,bY,λ i h1 h2=>?_,by rw[<-List.flatMap_def];exact h⟩;rw[jT];obtain⟨f1,f2,f3,f4,f5⟩:=hf _ (cD h1);exact⟨[_],_,rfl,⟨rfl,ar⟩,[_],_,rfl,⟨rfl,f2.1,f2.2⟩,[_],_,rfl,⟨rfl,ar⟩,[_],[_],rfl,⟨rfl,f4.1,f4.2⟩,⟨rfl,f5.1,f5.2⟩⟩
theorem JP:∀vs:List R,(vs.map λ v=>[v]).flatten=vs
 |[]=>rfl
 |v::l=>by simp[JP l]
theorem ET.rows{lo:Nat}{X:agb}{v:R}{od:List (List Ts)}(h:ET lo X v od)(hf:∀ts∈od,∀t∈ts,NV t):cH (eF Fs) 86 X lo X.heap.size v od:=by
 rcases h with⟨rfl,rfl⟩|⟨vs,h1,h2,h3⟩
 · exact cH.nil
 · refine⟨vs.map λ v=>[v],by simpa using h1,λ i a b=>?_,by rw[JP];exact h2⟩
   rw[jT];have hb:i<vs.length:=by simpa using b
   exact JO ((h3 i _ _ (af hb) (af a)).rows (hf _ (cD a))) (ak _) (ah _)
theorem GY.rows{lo:Nat}{X:agb}{v:R}{its:List It}(h:GY lo X v its)(hf:∀x∈its,SM x):cH Fu 52 X lo X.heap.size v its:=by obtain⟨vs,h1,h2,h3⟩:=h;refine⟨List.zipWith rL vs its,by simp[h1],λ i a b=>?_,h2⟩;have hb:i<vs.length:=ar;rw[List.getElem_zipWith];obtain⟨f1,f2,f3,f4,⟨f5,f6⟩,⟨f7,f8⟩,f9⟩:=hf _ (cD a);have hr:=JO ((h3 i _ _ (af hb) (af a)).rows f3) (ah _) (ah _);exact⟨[_],_,rfl,⟨rfl,f1.1,f1.2⟩,[_],_,rfl,⟨rfl,ar⟩,[_],_,rfl,hr,[_],_,rfl,⟨rfl,f4.1,f4.2⟩,[_,_],_,rfl,⟨[_],[_],rfl,⟨rfl,f5.1,f5.2⟩,⟨rfl,f6.1,f6.2⟩⟩,[_,_],[_],rfl,⟨[_],[_],rfl,⟨rfl,f7.1,f7.2⟩,⟨rfl,f8.1,f8.2⟩⟩,⟨rfl,f9.1,f9.2⟩⟩
abbrev aiM:BA0:=⟨#[108,111,119,46,98]⟩
abbrev SN:BA0:=⟨#[115,105,122,101]⟩
abbrev aaP:BA0:=⟨#[98,108,111,99,107]⟩
abbrev aed:BA0:=⟨#[107,105,110,100]⟩
abbrev aaQ:BA0:=⟨#[115,116,97,110,100]⟩
abbrev aiN:BA0:=⟨#[97,103,101]⟩
abbrev Xb:BA0:=⟨#[]⟩
def Xc:It:=(1,⟨#[97]⟩,[[(aaP,1,aiM,0,13),(SN,4,Xb,2,31)],[(aed,1,aaQ,0,44)]],0,(0,0),(0,0),0)
def it1:It:=(2,⟨#[100]⟩,[[(aiN,3,Xb,16,70)]],0,(0,0),(0,0),58)
def it2:It:=(3,⟨#[112]⟩,[],5,(0,1),(0,1),80)
def it3:It:=(1,⟨#[110,101,118,101,114]⟩,[[(SN,5,Xb,3,108),(SN,3,Xb,4,121)]],0,(0,0),(0,0),91)
def SP:List It:=[Xc,it1,it2,it3]
theorem pn:qY xQ 0 Xc 17:=
 ⟨_,_,_,_,0,2,16,_,_,rfl,rfl,rfl,.inl ⟨rfl,rfl,rfl,rfl,_,_,_,_,rfl,.inr ⟨rfl,cj⟩⟩,
   .inr ⟨_,_,rfl,.inr ⟨_,_,12,_,_,rfl,.inr ⟨_,_,8,_,_,rfl,⟨_,_,_,_,rfl,rfl,rfl,rfl,.inr (.inr ⟨_,_,_,_,_,_,_,_,rfl,rfl,rfl,by decide+kernel,rfl,rfl,cj,cj⟩)⟩,rfl,⟨_,_,_,_,rfl,rfl,rfl,rfl,.inl ⟨_,_,rfl,rfl,rfl⟩⟩,_,_,_,_,rfl,.inr ⟨rfl,cj⟩⟩,rfl,
    .inl ⟨_,rfl,⟨_,_,_,_,rfl,rfl,rfl,rfl,.inr (.inl ⟨_,_,_,_,_,_,rfl,rfl,.inr ⟨rfl,cj⟩,rfl,rfl⟩)⟩,_,_,_,_,rfl,.inl rfl⟩,_,_,_,_,rfl,.inl rfl⟩⟩,rfl,rfl,cj,rfl,rfl⟩
theorem at1:qY xQ 17 it1 24:=
 ⟨_,_,_,_,0,19,23,_,_,rfl,rfl,rfl,.inr (.inl ⟨rfl,rfl,rfl,rfl⟩),
   .inr ⟨_,_,rfl,.inl ⟨_,rfl,.inl ⟨_,rfl,⟨_,_,_,_,rfl,rfl,rfl,rfl,.inl ⟨_,_,rfl,rfl,rfl⟩⟩,_,_,_,_,rfl,.inl rfl⟩,_,_,_,_,rfl,.inl rfl⟩⟩,rfl,rfl,cj,rfl,rfl⟩
theorem at2:qY xQ 24 it2 28:=
 ⟨_,_,_,_,1,27,27,_,_,rfl,rfl,rfl,.inr (.inr ⟨rfl,rfl,rfl,_,_,rfl,⟨_,_,_,_,rfl,.inl rfl⟩,⟨_,_,_,_,rfl,.inl rfl⟩⟩),
   .inl ⟨rfl,rfl,_,_,_,_,rfl,.inl rfl⟩,rfl,rfl,cj,rfl,rfl⟩
theorem at3:qY xQ 28 it3 39:=
 ⟨_,_,_,_,0,30,38,_,_,rfl,rfl,rfl,.inl ⟨rfl,rfl,rfl,rfl,_,_,_,_,rfl,.inr ⟨rfl,cj⟩⟩,
   .inr ⟨_,_,rfl,.inl ⟨_,rfl,.inr ⟨_,_,34,_,_,rfl,⟨_,_,_,_,rfl,rfl,rfl,rfl,.inl ⟨_,_,rfl,rfl,rfl⟩⟩,rfl,⟨_,_,_,_,rfl,rfl,rfl,rfl,.inl ⟨_,_,rfl,rfl,rfl⟩⟩,_,_,_,_,rfl,.inl rfl⟩,_,_,_,_,rfl,.inl rfl⟩⟩,rfl,rfl,cj,rfl,rfl⟩
theorem aaR:B4 xQ 0 SP xQ.length:=⟨17,pn,24,at1,28,at2,39,at3,rfl⟩
theorem Xd:∀x∈SP,SM x:=by unfold SM NV fits;decide+kernel
theorem aaS(W:agb):Calls prog 22 #[.string yV] W λ r W'=>∃A c,r=.returned (.tuple #[.agg #[G A 4 c],I J 0,I J 0])/\cH Fu 52 W' W.heap.size W'.heap.size (G A 4 c) SP/\aZ W W':=by refine(LU W yV xQ SP aaR cj cj cj (by decide+kernel) SL).mono ?_;rintro r W' ⟨A,c,rfl,h,hb⟩;exact⟨A,c,rfl,h.rows Xd,hb⟩
end
section
open Go.RowKit
attribute [local go_sem] aQ aC bW
theorem eh.Db{w:agb}{b:Nat}(hb:b=w.heap.size):eh (w.alloc (.map #[] 0)) b []:=hb▸eh.new w
theorem cS.Db{w:agb}{b:Nat}(hb:b=w.heap.size):cS (w.alloc (.map #[] 0)) b []:=hb▸cS.new w
def GZ:List (BA0×R):=[(⟨#[115,101,97,116]⟩,I J 0),(⟨#[119,104,101,101,108]⟩,I J 1),(⟨#[98,101,115,105,100,101]⟩,I J 2),(⟨#[115,116,97,110,100]⟩,I J 3)]
def Tables(w:agb)(ma mn m4 m5 m6:Nat)(Ea E4 E5:List (BA0×R)):Prop:=
 ma<mn/\mn<m4/\m4<m5/\m5<m6/\cS w ma Ea/\eh w mn [(4,.map (O m4)),(5,.map (O m5)),(6,.map (O m6))]/\cS w m4 E4/\cS w m5 E5/\cS w m6 GZ
def fF(L:List BA0):Nat->List (BA0×R)
 |0=>[]
 |k+1=>match L[k]? with
  |none=>fF L k
  |some s=>wh (fF L k) s k
theorem qC{L:List BA0}{k:Nat}{s:BA0}(h:L[k]?=O s):fF L (k+1)=wh (fF L k) s k:=by show(match L[k]? with |none=>fF L k|some s=>wh (fF L k) s k)=_;rw[h]
theorem JQ{s:BA0}:∀{l:List BA0}{x:BA0},iH s (l++[x])=match iH s l with |some n=>O n|none=>if s=x then O l.length else U
 |[],x=>by
  show(if s=x then O 0 else(U:Option Nat).map (· +1))=(if s=x then O 0 else U);rfl
 |y::l,x=>by
  show(if s=y then O 0 else(iH s (l++[x])).map (· +1))=match(if s=y then O 0 else(iH s l).map (· +1)) with |some n=>O n|none=>if s=x then O (l.length+1) else U
  by_cases h:s=y
  · rw[if_pos h,if_pos h]
  · rw[if_neg h,if_neg h,JQ]
    cases iH s l with
    |some n=>rfl
    |none=>
     by_cases hx:s=x
     · simp[hx]
     · simp[hx]
theorem qD(s:BA0)(L:List BA0):∀k,fJ s (fF L k)=(iH s (L.take k)).map λ(n:Nat)=>I J n
 |0=>rfl
 |k+1=>by
  have ih:=qD s L k;cases h:L[k]? with
  |none=>
   have hl:=List.getElem?_eq_none_iff.1 h
   have e:fF L (k+1)=fF L k:=by show(match L[k]? with |none=>fF L k|some s=>wh (fF L k) s k)=_;rw[h]
   rw[e,ih,cU hl,cU ar]
  |some x=>
   have hlt:=(ai.1 h).1;have hlen:(L.take k).length=k:=by rw[dh];omega
   rw[qC h,bu,h];show fJ s (wh (fF L k) x k)=(iH s (L.take k++[x])).map _;rw[JQ,hlen];unfold wh;by_cases hx:fJ x (fF L k)=U
   · rw[if_pos hx,Fw hx,ih]
     by_cases e:s=x
     · subst e
       rw[qD s L k] at hx;have :iH s (L.take k)=U:=by simpa using hx
       rw[this];simp
     · rw[if_neg e]
       cases iH s (L.take k) with
       |some n=>rfl
       |none=>simp[e]
   · rw[if_neg hx,ih]
     cases hi:iH s (L.take k) with
     |some n=>rfl
     |none=>
      by_cases e:s=x
      · subst e
        rw[qD s L k,hi] at hx;exact absurd rfl hx
      · simp[e]
theorem PE:∀k:Fin 10,(fJ (gu.getD k.1 jw) (fF gu k.1)).isNone=true:=cj
theorem SQ{k:Nat}(hk:k<10):∃s,gu[k]?=O s/\fJ s (fF gu k)=U:=by
 refine⟨gu.getD k jw,?_,?_⟩
 · rw[av,af (show k<gu.length from hk)];rfl
 · have :=PE ⟨k,hk⟩
   simpa using this
def BJ(l:Le):List BA0:=(l.2.2.1.map (·.1)++l.2.2.2.1.map (·.1)).map λ n=>l.1++Jf++n
def kX(ls:List Le):List BA0:=ls.map (·.1)
def kI(ls:List Le):List BA0:=ls.flatMap BJ
def kh(ls:List Le)(k:Nat):Nat:=(kI (ls.take k)).length
theorem zk{ls:List Le}{k:Nat}{l:Le}(h:ls[k]?=O l):kh ls (k+1)=kh ls k+(BJ l).length:=by unfold kh kI;rw[bu,h];simp
theorem SR{ls:List Le}{k j:Nat}{l:Le}{n:BA0}(h:ls[k]?=O l)(hn:(BJ l)[j]?=O n):(kI ls)[kh ls k+j]?=O n:=by
 have hk:=(ai.1 h).1
 have e:kI ls=kI (ls.take k)++(BJ l++kI (ls.drop (k+1))):=by
  have e1:ls=ls.take k++(l::ls.drop (k+1)):=by rw[<-(ai.1 h).2,<-List.drop_eq_getElem_cons hk,ia]
  conv=>lhs;rw[e1]
  unfold kI;simp
 have hj:=(ai.1 hn).1;rw[e];unfold kh;rw[bP ar,Nat.add_sub_cancel_left,bM hj,hn]
theorem B5{ls:List Le}(hs:∀l∈ls,l.2.2.1.length+l.2.2.2.1.length<=50):∀k,kh ls k<=50*k
 |0=>by simp[kh,kI]
 |k+1=>by
  have ih:=B5 hs k;cases h:ls[k]? with
  |none=>
   have hl:=List.getElem?_eq_none_iff.1 h
   have :kh ls (k+1)=kh ls k:=by unfold kh;rw[cU hl,cU ar]
   omega
  |some l=>
   rw[zk h];have h1:=hs l (az h);have :(BJ l).length=l.2.2.1.length+l.2.2.2.1.length:=by unfold BJ;simp
   omega
theorem NW:∀(w:agb)(B:Nat)(cs:List R)(x:BA0),mY.rd w B cs x->∀u∈cs,u.oneCell'=true:=λ w B cs x h u hu=>by obtain⟨rfl,_⟩:=h;simp at hu;subst hu;rfl
theorem SS{w:agb}{B:Nat}{A:dB}{xs:List BA0}(h:cG mY w B A xs){k:Nat}(hk:k<xs.length):
 ∃b off x,A=O ⟨b,off,U⟩/\b<B/\Hid (xs[k]?=O x)/\w.cell? ⟨b,off+k,U⟩=O (.string x)/\x.size<=1125899906842624:=by
 obtain⟨b,off,x,cs,hA,hb,_,hx,_,⟨rfl,h1⟩,hc⟩:=h.pick hk;exact⟨b,off,x,hA,hb,hx,by simpa [mY] using hc 0 _ rfl,h1⟩
def G0(w X:agb)(hc:Array R)(sb ma mn m4 m5 m6:Nat):Prop:=
 aZ w X/\Bk X w.heap.size hc 26/\Bk X sb #[.map (O ma),.map (O mn)] 189/\Bk X (sb+1) #[M (O ⟨sb,0,U⟩)] 92/\eh X mn [(4,.map (O m4)),(5,.map (O m5)),(6,.map (O m6))]/\cS X m6 GZ/\cS X ma (fF gu 10)
theorem G0.only{w X Y:agb}{hc:Array R}{sb ma mn m4 m5 m6:Nat}{S:Nat->Prop}(h:G0 w X hc sb ma mn m4 m5 m6)(ho:Only S X Y)(hS:∀g,S g->w.heap.size<g/\g≠sb/\g≠sb+1/\g≠mn/\g≠m6/\g≠ma):G0 w Y hc sb ma mn m4 m5 m6:=
 ⟨h.1.trans (ho.aK (λ g hg=>by have :=(hS g hg).1;omega) h.1.size),h.2.1.only ho (λ hg=>by have :=(hS _ hg).1;omega),h.2.2.1.only ho (λ hg=>(hS _ hg).2.1 rfl),h.2.2.2.1.only ho (λ hg=>(hS _ hg).2.2.1 rfl),h.2.2.2.2.1.only ho (λ hg=>(hS _ hg).2.2.2.1 rfl),h.2.2.2.2.2.1.only ho (λ hg=>(hS _ hg).2.2.2.2.1 rfl),h.2.2.2.2.2.2.only ho (λ hg=>(hS _ hg).2.2.2.2.2 rfl)⟩
theorem G0.below{w X Y:agb}{hc:Array R}{sb ma mn m4 m5 m6:Nat}(h:G0 w X hc sb ma mn m4 m5 m6)(ho:aZ X Y):G0 w Y hc sb ma mn m4 m5 m6:=
 h.only (S:=λ _=>False) (aw ho) (λ _ h=>h.elim)
def G1:Array R:=(gu.map Value.string).toArray
theorem PF{k:Nat}{s:BA0}(h:gu[k]?=O s):G1[k]?=O (.string s):=by unfold G1;simp[h]
def nQ(X:agb)(sb:Nat)(L:Nm):Prop:=
 ∃ma mn m4 m5 m6,Bk X sb #[.map (O ma),.map (O mn)] 189/\eh X mn [(4,.map (O m4)),(5,.map (O m5)),(6,.map (O m6))]/\cS X ma (fF gu 10)/\cS X m4 (fF L.1 L.1.length)/\cS X m5 (fF L.2 L.2.length)/\cS X m6 (fF sw 4)
theorem nQ.below{X Y:agb}{sb:Nat}{L:Nm}(h:nQ X sb L)(hb:aZ X Y):nQ Y sb L:=by obtain⟨ma,mn,m4,m5,m6,h1,h2,h3,h4,h5,h6⟩:=h;exact⟨ma,mn,m4,m5,m6,h1.below hb,h2.below hb,h3.below hb,h4.below hb,h5.below hb,h6.below hb⟩
theorem nQ.lt{X:agb}{sb:Nat}{L:Nm}(h:nQ X sb L):sb<X.heap.size:=by obtain⟨ma,mn,m4,m5,m6,h1,_⟩:=h;exact h1.lt
def aaT(w:agb)(L:Nm)(e:Ending)(w':agb):Prop:=∃sb,e=.returned (M (O ⟨sb,0,U⟩))/\nQ w' sb L/\aZ w w'/\w.heap.size<=sb
theorem PG(hn:BA0)(x y:Int)(A:dB)(ls:List Le)(cap:Nat)(w:agb)(B:Nat)(h:cG Ji w B A ls)(hB:B<=w.heap.size)(hl:ls.length<=10)(hs:∀l∈ls,l.2.2.1.length+l.2.2.2.1.length<=50):
 Calls prog 24 #[.agg #[.string hn,I J x,I J y,G A ls.length cap]] w (aaT w (kX ls,kI ls)):=by
 have HH:=aG h;have qf:= @run_makeMap prog;go_enter func24,ntmps24
 go_upto_region 2 with(first
  |(refine gy rfl _ _ _ _ rfl 3 112 ij aJ rfl ((eh.Db bY).below (aj _ _)) 4 rfl rfl (.map (O (w.heap.size+1+1+1))) rfl ?_;intro wA hA oA;have HA:Hid (eh wA (w.heap.size+1+1) [(4,.map (O (w.heap.size+1+1+1)))]/\Only (λ g=>g=w.heap.size+1+1) _ wA):=dt hA oA;clear hA oA)
  |(refine gy rfl _ _ _ _ rfl 3 112 ij aJ rfl (HA.q1.below (aj _ _)) 5 rfl rfl (.map (O wA.heap.size)) rfl ?_;intro wB hB oB;have HB:Hid (eh wB (w.heap.size+1+1) [(4,.map (O (w.heap.size+1+1+1))),(5,.map (O wA.heap.size))]/\Only (λ g=>g=w.heap.size+1+1) _ wB):=dt hB oB;clear hB oB)
  |(refine eH rfl _ _ _ _ rfl 9 3 bC bn rfl (cS.new wB) ⟨#[115,101,97,116]⟩ rfl rfl (I J 0) rfl ?_;intro wC hC oC;have HC:Hid (cS wC wB.heap.size [(⟨#[115,101,97,116]⟩,I J 0)]/\Only (λ g=>g=wB.heap.size) _ wC):=dt hC oC;clear hC oC)
  |(refine eH rfl _ _ _ _ rfl 9 3 bC bn rfl HC.q1 ⟨#[119,104,101,101,108]⟩ rfl rfl (I J 1) rfl ?_;intro wD hD oD;have HD:Hid (cS wD wB.heap.size [(⟨#[115,101,97,116]⟩,I J 0),(⟨#[119,104,101,101,108]⟩,I J 1)]/\Only (λ g=>g=wB.heap.size) wC wD):=dt hD oD;clear hD oD)
  |(refine eH rfl _ _ _ _ rfl 9 3 bC bn rfl HD.q1 ⟨#[98,101,115,105,100,101]⟩ rfl rfl (I J 2) rfl ?_;intro wE hE oE;have HE:Hid (cS wE wB.heap.size [(⟨#[115,101,97,116]⟩,I J 0),(⟨#[119,104,101,101,108]⟩,I J 1),(⟨#[98,101,115,105,100,101]⟩,I J 2)]/\Only (λ g=>g=wB.heap.size) wD wE):=dt hE oE;clear hE oE)
  |(refine eH rfl _ _ _ _ rfl 9 3 bC bn rfl HE.q1 ⟨#[115,116,97,110,100]⟩ rfl rfl (I J 3) rfl ?_;intro wF hF oF;have HF:Hid (cS wF wB.heap.size GZ/\Only (λ g=>g=wB.heap.size) (wB.alloc (.map #[] 0)) wF):=dt hF (((HC.t1.trans HD.t1).trans HE.t1).trans oF);clear hF oF HC HD HE)
  |(refine gy rfl _ _ _ _ rfl 3 112 ij aJ rfl ((HB.q1.below (aj _ _)).only HF.t1 (by have :=HB.q1.lt;omega)) 6 rfl rfl (.map (O wB.heap.size)) rfl ?_;intro wG hG oG;have HG:Hid (eh wG (w.heap.size+1+1) [(4,.map (O (w.heap.size+1+1+1))),(5,.map (O wA.heap.size)),(6,.map (O wB.heap.size))]/\Only (λ g=>g=w.heap.size+1+1) wF wG):=dt hG oG;clear hG oG))
 have hs1:w.heap.size+4<=wA.heap.size:=by have :=HA.t1.size;simpa using this
 have hs2:wA.heap.size+1<=wB.heap.size:=by have :=HB.t1.size;simpa using this
 have hs3:wB.heap.size+1<=wF.heap.size:=by have :=HF.t1.size;simpa using this
 have hs4:wF.heap.size<=wG.heap.size:=HG.t1.size;have bI:aZ w wG:=((((((ay (ay (ay (aj w _) _) _) _).trans (HA.t1.aK (λ g hg=>ar) gW)).alloc ar _).trans (HB.t1.aK (λ g hg=>ar) gW)).alloc ar _).trans (HF.t1.aK (λ g hg=>ar) gW)).trans (HG.t1.aK (λ g hg=>ar) ar);have bh:=(((((((((Bk.new w #[.string hn,I J x,I J y,G A ls.length cap] 26).alloc (.map #[] 0)).alloc (.map #[] 0)).alloc (.map #[] 0)).only HA.t1 ar).alloc (.map #[] 0)).only HB.t1 ar).alloc (.map #[] 0)).only HF.t1 ar).only HG.t1 ar;have tA:cS wG (w.heap.size+1) []:=((((((((cS.Db (b:=w.heap.size+1) bY).below (aj _ _)).below (aj _ _)).only HA.t1 ar).below (aj _ _)).only HB.t1 ar).below (aj _ _)).only HF.t1 ar).only HG.t1 ar;have t4:cS wG (w.heap.size+1+1+1) []:=((((((cS.Db (b:=w.heap.size+1+1+1) bY).only HA.t1 ar).below (aj _ _)).only HB.t1 ar).below (aj _ _)).only HF.t1 ar).only HG.t1 ar;have t5:cS wG wA.heap.size []:=((((cS.new wA).only HB.t1 ar).below (aj _ _)).only HF.t1 ar).only HG.t1 ar;have t6:cS wG wB.heap.size GZ:=HF.q1.only HG.t1 ar;have tn:=HG.q1
 refine forget (λ X=>aZ w X/\Bk X w.heap.size #[.string hn,I J x,I J y,G A ls.length cap] 26/\Bk X wG.heap.size #[.map (O (w.heap.size+1)),.map (O (w.heap.size+1+1))] 189/\Bk X (wG.heap.size+1) #[M (O ⟨wG.heap.size,0,U⟩)] 92/\Tables X (w.heap.size+1) (w.heap.size+1+1) (w.heap.size+1+1+1) wA.heap.size wB.heap.size [] [] [])
  ⟨(bI.alloc ar _).alloc gW _,(bh.alloc _).alloc _,(Bk.new _ _ _).alloc _,au _ _ _ _ bY,ar,ar,ar,ar,(tA.below (aj _ _)).below (aj _ _),(tn.below (aj _ _)).below (aj _ _),(t4.below (aj _ _)).below (aj _ _),(t5.below (aj _ _)).below (aj _ _),(t6.below (aj _ _)).below (aj _ _)⟩ ?_
 have hs5:wB.heap.size+1<=wG.heap.size:=ar;clear bI bh tA t4 t5 t6 tn HA HB HF HG hs3 hs4 qf;generalize wA.heap.size=m5 at *;generalize wB.heap.size=m6 at *;generalize wG.heap.size=sb at *;rintro X ⟨hw,bh,bs,bv,T⟩;clear h;have HX:=lQ hw bh bs bv T;clear hw bh bs bv T;go_upto_region 3 with(fail);refine forget (λ Y=>aZ X Y/\Bk Y X.heap.size G1 9) ⟨aj _ _,Bk.new _ _ _⟩ ?_;rintro X1 ⟨hw,br⟩;obtain⟨rb,kS⟩:∃b,X.heap.size=b:=⟨_,rfl⟩;rw[kS];have oV:=HX.q4.lt
 have Rh:Hid (aZ w X1/\Bk X1 w.heap.size #[.string hn,I J x,I J y,G A ls.length cap] 26/\Bk X1 sb #[.map (O (w.heap.size+1)),.map (O (w.heap.size+1+1))] 189/\Bk X1 (sb+1) #[M (O ⟨sb,0,U⟩)] 92/\Tables X1 (w.heap.size+1) (w.heap.size+1+1) (w.heap.size+1+1+1) m5 m6 [] [] []/\Bk X1 rb G1 9):=
  aG ⟨aq HX.q1 hw,HX.q2.below hw,HX.q3.below hw,HX.q4.below hw,⟨HX.q5,HX.q6,HX.q7,HX.q8,HX.q9.below hw,HX.Ci.below hw,HX.q11.below hw,HX.q12.below hw,HX.t12.below hw⟩,kS▸br⟩
 have hrs:sb+2<=rb:=ar;clear hw br HX oV kS;go_wp2_with fail;go_loopw [4,5,28] (λ _ _ i wr=>∃k:Nat,k<=10/\i=I J k/\cS wr (w.heap.size+1) (fF gu k)/\Only (λ g=>g=w.heap.size+1) X1 wr) (λ _ _ i _=>10 - (intOf i).toNat)
 case atStart=>exact⟨0,ar,rfl,Rh.q5.2.2.2.2.1,Only.refl _ _⟩
 case round=>
  obtain⟨k,hk,rfl,hm,ho⟩:=hrel;have bs:=Rh.q3.only ho ar;have bv:=Rh.q4.only ho ar;have br:=Rh.t5.only ho ar;have cs:=bs.cell;have cv:=bv.cell;have lr:=br.lt;have ls9:=bs.lt;have lv:=bv.lt;by_cases hlt:k<10
  · obtain⟨s,hs1,hs2⟩:=SQ hlt
    have cr:wr.cell? ⟨rb,k,U⟩=O (.string s):=(br.cell k).trans (PF hs1);have HM:=fH hm ho hs2;have aaU:(k:Int)<10:=ar;have JR:=aG (qC hs1);have aiO:Hid (wh (fF gu k) s k=fF gu k++[(s,I J k)]):=aG (by unfold wh;rw[if_pos hs2]);clear bs bv br hm ho hs1 hs2;go_wp2_with (at_mapUpdate;refine Fq rfl _ _ _ _ rfl 9 3 bC bn rfl HM.q1 s rfl HM.t2 (I J k) rfl ?_;intro w2 tH tI;have HQ:=dt tH tI;clear tH tI);go_roundw
    case rel=>exact⟨k+1,ar,gC,by rw[JR.o,aiO.o];exact HQ.q1,HM.q2.trans HQ.t1⟩
    case measure=>simp[intOf];omega
  · obtain rfl:k=10:=ar
    have h10:((10:Nat):Int)=10:=rfl;rw[h10];clear h10
    have FI:G0 w wr #[.string hn,I J x,I J y,G A ls.length cap] sb (w.heap.size+1) (w.heap.size+1+1) (w.heap.size+1+1+1) m5 m6:=
     ⟨Rh.q1.trans (ho.aK (λ g hg=>ar) Rh.q1.size),Rh.q2.only ho ar,bs,bv,Rh.q5.2.2.2.2.2.1.only ho ar,Rh.q5.2.2.2.2.2.2.2.2.only ho ar,hm⟩
    have h4:cS wr (w.heap.size+1+1+1) []:=Rh.q5.2.2.2.2.2.2.1.only ho ar;have h5:cS wr m5 []:=Rh.q5.2.2.2.2.2.2.2.1.only ho ar;clear hm ho bs bv br cs cv lr ls9 lv Rh hlt hk;refine forget (λ Y=>G0 w Y #[.string hn,I J x,I J y,G A ls.length cap] sb (w.heap.size+1) (w.heap.size+1+1) (w.heap.size+1+1+1) m5 m6/\cS Y (w.heap.size+1+1+1) []/\cS Y m5 []) ⟨FI,h4,h5⟩ ?_;clear FI h4 h5;rintro X2 ⟨FI,h4,h5⟩;obtain⟨ch,lh⟩:=FI.2.1.cl0;have hz:=FI.1.size;have hsx:=FI.2.2.2.1.lt;have HS:=fH FI h4 h5;have C9:∀(fn:Fn)(first cap:Array R)(w:agb),(Instr.makeFunc fn first cap).run prog w=.ok (.func fn first cap) w:=λ _ _ _ _=>rfl;clear FI h4 h5;go_wp2_with fail;clear C9;obtain⟨lv,hlv⟩:∃l,kX ls=l:=⟨_,rfl⟩;obtain⟨bk,pX⟩:∃l,kI ls=l:=⟨_,rfl⟩;have HL:=dt hlv pX;clear hlv pX ch lh;go_loopw [6,8,9,10,12,14,16,44] (λ bl _ _ _ _ _ _ i wr=>∃k:Nat,k<=ls.length/\i=I J k/\bl=I J (kh ls k)/\cS wr (w.heap.size+1+1+1) (fF lv k)/\cS wr m5 (fF bk (kh ls k))/\Only (λ g=>g=w.heap.size+1+1+1\/g=m5) X2 wr) (λ _ _ _ _ _ _ _ i _=>ls.length - (intOf i).toNat)
    case atStart=>exact⟨0,ar,rfl,rfl,HS.q2,HS.t2,Only.refl _ _⟩
    case round=>
     obtain⟨k,hk,rfl,rfl,h4,h5,ho⟩:=hrel;have FI:=HS.q1.only ho (λ g hg=>ar);by_cases hlt:k<ls.length
     · have hE:=HH.o.keep (FI.1.mono hB) (ah _)
       obtain⟨b,off,nm,ht,AB,bs,cb,AA,tk,ca,q1,q2,q3,fR,rfl,hb,Hk,g0,g1,g2,g3,g4,g5,g6,g7,gnm,gl1,gl2,HEb,HEa⟩:=GJ hE hlt;have kq:(k:Int)<(ls.length:Int):=ar;have hzr:=ho.size;have bw:b<wr.heap.size:=ar;have xV:bs.length+tk.length<=50:=hs _ (az Hk.o);have hof:=B5 hs k;have JR:Hid (wh (fF lv k) nm k=fF lv (k+1)):=aG (by rw[qC];rw[<-HL.q1];unfold kX;rw[bQ,Hk.o];rfl);have HO:=iM FI h4 h5 ho;have Rv:B<=wr.heap.size:=ar;clear FI h4 h5 ho hE;go_upto_region 13 with(go_at_call 74;refine(Fx 4 k nm (sb+1) sb _ _ _ _ _ _ (HO.q1.below (aj _ _)).2.2.2.1 (HO.q1.below (aj _ _)).2.2.1 (HO.q1.below (aj _ _)).2.2.2.2.1 rfl (HO.q2.below (aj _ _))).mono ?_;rintro e w1 ⟨rfl,tu,tr⟩;rw[JR.o] at tu;have HQ:=dt tu tr;clear tu tr);have hz1:=HQ.t1.size;simp at hz1
       refine forget (λ Y=>G0 w Y #[.string hn,I J x,I J y,G (O ⟨b,off,U⟩) ls.length cap] sb (w.heap.size+1) (w.heap.size+1+1) (w.heap.size+1+1+1) m5 m6/\cS Y (w.heap.size+1+1+1) (fF lv (k+1))/\cS Y m5 (fF bk (kh ls k))/\Only (λ g=>g=w.heap.size+1+1+1\/g=m5) X2 Y/\Bk Y wr.heap.size #[.string nm,I J ht,G AB bs.length cb,G AA tk.length ca,G q1.1 q1.2.1 q1.2.2,G q2.1 q2.2.1 q2.2.2,G q3.1 q3.2.1 q3.2.2,I J fR] 85/\cG Ze Y B AB bs/\cG Zf Y B AA tk)
        ⟨(HO.q1.below (aj _ _)).only HQ.t1 (λ g hg=>ar),HQ.q1,(HO.q3.below (aj _ _)).only HQ.t1 ar,(HO.t3.alloc _).trans (HQ.t1.mono λ g hg=>.inl hg),(Bk.new wr _ _).only HQ.t1 ar,HEb.o.keep (((aA B wr).alloc Rv _).trans (HQ.t1.aK (λ g hg=>ar) gW)) (ah _),HEa.o.keep (((aA B wr).alloc Rv _).trans (HQ.t1.aK (λ g hg=>ar) gW)) (ah _)⟩ ?_
       clear HO HQ HEb HEa g0 g1 g2 g3 g4 g5 g6 g7 hz1 bw Rv;generalize oy:wr.heap.size=lb at *;rintro Y1 ⟨FI,h4,h5,ho,bl,hEb,hEa⟩;obtain⟨cl,ll⟩:=bl.cl0;have HY:=yJ FI h4 h5 ho bl hEb hEa;have hzy:=ho.size;clear FI h4 h5 ho bl hEb hEa;go_wp2_with fail;go_loopw [10,12,57] (λ v _ i wr=>∃j:Nat,j<=bs.length/\i=I J j/\cH mY 9 wr Y1.heap.size 0 v ((bs.take j).map (·.1))/\aZ Y1 wr) (λ _ _ i _=>bs.length - (intOf i).toNat)
       case atStart=>exact⟨0,ar,rfl,cH.nil,aA _ _⟩
       case round=>
        obtain⟨j,hj,rfl,hown,ml⟩:=hrel;obtain⟨A7,c7,rfl,EJ,EX⟩:=hown.form;have aaV:c7<=9223372036854775807:=by unfold maxLen at EX;omega
        have Zt:=ml.size;have cq:=(HY.q5.below ml).cell;have lq:=(HY.q5.below ml).lt;by_cases Lm:j<bs.length
        · have Ai:=(HY.q6).keep (ml.mono (show B<=Y1.heap.size from ar)) (ah _)
          obtain⟨b9,Xe,SU,Ru,at9,rfl,aiP,Hj,e0,e1,e2,aaW⟩:=NF Ai Lm;have rE:(j:Int)<(bs.length:Int):=ar;have kY:b9<wr.heap.size:=ar;obtain⟨q7,Xf⟩:∃q,(bs.take j).map (·.1)=q:=⟨_,rfl⟩;have aiQ:q7.length<=50:=by rw[<-Xf];simp;omega
          have SV:Hid ((bs.take (j+1)).map (·.1)=q7++[SU]):=aG (by rw[bu,Hj.o,<-Xf];simp);rw[Xf] at hown EJ⊢;have HW:=dt hown ml;clear hown ml Ai Xf;go_wp2_with (at_builtin;refine en (T:=mY) (base:=Y1.heap.size) (B:=0) (qs:=q7) (v:=G A7 q7.length c7) rfl _ _ _ rfl 16 underlying107 aV cj NW rfl ((HW.q1.below (aj _ _) ar).below (aj _ _) ar) (O ⟨wr.heap.size+1,0,U⟩) 1 1 [SU] [[.string SU]] rfl rfl rfl (λ i a1 a2=>by obtain rfl:i=0:=(by simp at a1;omega);exact⟨rfl,aaW⟩) (gL (au (wr.alloc (D #[.string SU,G Ru.1 Ru.2.1 Ru.2.2,I J at9] 163)) (wr.heap.size+1) #[.string SU] 9 bY) 1) (by unfold maxLen;omega) ar gW ar ?_;intro A8 c8 w8 ew eM Aj yK;have H8:=dt ew eM;clear ew eM Aj yK);go_roundw
          case rel=>exact⟨j+1,ar,gC,by rw[SV.o];exact H8.q1,((HW.t1.alloc Zt _).alloc gW _).trans H8.t1⟩
          case measure=>simp[intOf];omega
        · obtain rfl:j=bs.length:=ar
          rw[aX] at hown EJ⊢;have HR:=dt hown ml;clear hown ml Lm hj EX EJ;go_wp2_with fail;go_loopw [10,14,70] (λ v _ i wr=>∃j:Nat,j<=tk.length/\i=I J j/\cH mY 9 wr Y1.heap.size 0 v (bs.map (·.1)++(tk.take j).map (·.1))/\aZ Y1 wr) (λ _ _ i _=>tk.length - (intOf i).toNat)
          case atStart=>exact⟨0,ar,rfl,by simpa using HR.q1,HR.t1⟩
          case round=>
           obtain⟨j,hj,rfl,hown,ml⟩:=hrel;obtain⟨A7,c7,rfl,EJ,EX⟩:=hown.form;have aaV:c7<=9223372036854775807:=by unfold maxLen at EX;omega
           have Zt:=ml.size;have cq:=(HY.q5.below ml).cell;have lq:=(HY.q5.below ml).lt;by_cases Lm:j<tk.length
           · have Ai:=(HY.t6).keep (ml.mono (show B<=Y1.heap.size from ar)) (ah _)
             obtain⟨b9,Xe,SU,x1,x2,x3,x4,Ru,at9,rfl,aiP,Hj,e0,e1,e2,e3,e4,e5,e6,aaW⟩:=NG Ai Lm;have rE:(j:Int)<(tk.length:Int):=ar;have kY:b9<wr.heap.size:=ar;obtain⟨q7,Xf⟩:∃q,bs.map (·.1)++(tk.take j).map (·.1)=q:=⟨_,rfl⟩;have aiQ:q7.length<=50:=by rw[<-Xf];simp;omega
             have SV:Hid (bs.map (·.1)++(tk.take (j+1)).map (·.1)=q7++[SU]):=aG (by rw[bu,Hj.o,<-Xf];simp);rw[Xf] at hown EJ⊢;have HW:=dt hown ml;clear hown ml Ai Xf;go_wp2_with (at_builtin;refine en (T:=mY) (base:=Y1.heap.size) (B:=0) (qs:=q7) (v:=G A7 q7.length c7) rfl _ _ _ rfl 16 underlying107 aV cj NW rfl ((HW.q1.below (aj _ _) ar).below (aj _ _) ar) (O ⟨wr.heap.size+1,0,U⟩) 1 1 [SU] [[.string SU]] rfl rfl rfl (λ i a1 a2=>by obtain rfl:i=0:=(by simp at a1;omega);exact⟨rfl,aaW⟩) (gL (au (wr.alloc (D #[.string SU,I J x1,I J x2,I J x3,I J x4,I J Ru,I J at9] 171)) (wr.heap.size+1) #[.string SU] 9 bY) 1) (by unfold maxLen;omega) ar gW ar ?_;intro A8 c8 w8 ew eM Aj yK;have H8:=dt ew eM;clear ew eM Aj yK);go_roundw
             case rel=>exact⟨j+1,ar,gC,by rw[SV.o];exact H8.q1,((HW.t1.alloc Zt _).alloc gW _).trans H8.t1⟩
             case measure=>simp[intOf];omega
           · obtain rfl:j=tk.length:=ar
             rw[aX] at hown EJ⊢;obtain⟨N,hN⟩:∃q,bs.map (·.1)++tk.map (·.1)=q:=⟨_,rfl⟩;have apB:N.length<=50:=by rw[<-hN];simp;omega
             have HNb:Hid (BJ (nm,ht,bs,tk,q1,q2,q3,fR)=N.map λ n=>nm++Jf++n):=aG (by unfold BJ;rw[<-hN]);rw[hN] at hown EJ⊢;refine forget (λ Y=>cH mY 9 Y Y1.heap.size 0 (G A7 N.length c7) N/\aZ Y1 Y) ⟨hown,ml⟩ ?_;clear hown ml Lm hj EX EJ cq lq Zt HR hN;rintro Y3 ⟨hown,ml⟩;have Zt:=ml.size;have H3:=uF hown (HY.q1.below ml) (HY.q2.below ml) (HY.q3.below ml) (HY.q4.trans (aw ml)) (HY.q5.below ml);clear hown ml HY;go_wp2_with fail;go_loopw [6,16,82] (λ bl _ i wr=>∃j:Nat,j<=N.length/\i=I J j/\bl=I J ((kh ls k+j:Nat):Int)/\cS wr m5 (fF bk (kh ls k+j))/\Only (λ g=>g=m5) Y3 wr) (λ _ _ i _=>N.length - (intOf i).toNat)
             case atStart=>exact⟨0,ar,rfl,rfl,H3.q4,Only.refl _ _⟩
             case round=>
              obtain⟨j,hj,rfl,rfl,hm,ho⟩:=hrel;have hown:=H3.q1.only ho (λ g hg=>ar) ar (λ g hg h=>by have :=(H3.q1.lt g hg).1;omega);have cq:=(H3.t5.only ho ar).cell;have lq:=(H3.t5.only ho ar).lt;have hzo:=ho.size;have HM:=fH hm ho (H3.q2.only ho (λ g hg=>ar));by_cases Lm:j<N.length
              · obtain⟨b9,Xe,s9,rfl,kY,Hj,e0,gs9⟩:=SS (hown.elems (B2:=wr.heap.size) ar (ah _)) Lm
                have rE:(j:Int)<(N.length:Int):=ar
                have SV:Hid (wh (fF bk (kh ls k+j)) (nm++Jf++s9) ((kh ls k:Int)+(j:Int))=fF bk (kh ls k+(j+1))):=aG (by rw[show((kh ls k:Int)+(j:Int))=((kh ls k+j:Nat):Int) from ar];rw[show kh ls k+(j+1)=(kh ls k+j)+1 from ar,qC];rw[<-HL.t1];refine SR Hk.o ?_;rw[HNb.o,bQ,Hj.o];rfl)
                clear hm ho hown;go_wp2_with (go_at_call 74;refine(Fx 5 ((kh ls k:Int)+(j:Int)) (nm++Jf++s9) (sb+1) sb _ _ _ _ _ _ HM.q6 HM.q5 HM.q7 rfl HM.q1).mono ?_;rintro e w1 ⟨rfl,tu,tr⟩;rw[SV.o] at tu;have HQ:=dt tu tr;clear tu tr);go_roundw
                case rel=>exact⟨j+1,ar,gC,gC,HQ.q1,HM.q2.trans HQ.t1⟩
                case measure=>simp[intOf];omega
              · obtain rfl:j=N.length:=ar
                have aef:Hid (kh ls (k+1)=kh ls k+N.length):=aG (by rw[zk Hk.o,HNb.o,bB]);clear hm ho hown;go_wp2_with fail;go_roundw
                case rel=>exact⟨k+1,ar,gC,by rw[aef.o],H3.q3.only HM.q2 ar,by rw[aef.o];exact HM.q1,H3.q5.trans (HM.q2.mono λ g hg=>.inr hg)⟩
                case measure=>simp[intOf];omega
     · obtain rfl:k=ls.length:=ar
       have HO:=fH FI h4 h5;obtain⟨cv,lv⟩:=FI.2.2.2.1.cl0;clear FI h4 h5 ho;go_wp2_with fail;go_ret;refine⟨sb,rfl,⟨_,_,_,_,_,HO.q1.2.2.1,HO.q1.2.2.2.2.1,HO.q1.2.2.2.2.2.2,?_,?_,HO.q1.2.2.2.2.2.1⟩,HO.q1.1,ar⟩
       · have e:(kX ls).length=ls.length:=by unfold kX;simp
         show cS _ _ (fF (kX ls) (kX ls).length);rw[e,HL.q1];exact HO.q2
       · have e:(kI ls).length=kh ls ls.length:=by unfold kh;rw[aX]
         show cS _ _ (fF (kI ls) (kI ls).length);rw[e,HL.t1];exact HO.t2
theorem JT{a b:BA0}(h:a≠b):(a.toList==b.toList)=false:=by rw[beq_eq_false_iff_ne,ByteArray.toList_eq,ByteArray.toList_eq];exact λ e=>h (Go.WideShapes.bytes_inj e)
section
variable{P:Program}{o:Oper}{a:Act}{b:Nat}{l:List (BA0×R)}
theorem gX{K:Act->Prop}{C:agb->Prop}(mm x:Operand)(t:TypeId)(hop:o.op=Op.lookup t mm x true)(kt e:TypeId)(ht:P.underlying t=O (.map kt e))(hk:P.underlying kt=O .string)(z:R)(hz:∀w,(zeroValue e).run P w=.ok z w)
 (hm:a.eval mm=.map (O b))(h:∀w,C w->cS w b l)(k:BA0)(hx:a.eval x=.string k)(hK:K (a.put o.dst (.tuple #[(fJ k l).getD z,.bool (fJ k l).isSome]))):o.quiet P a C K:=by
 refine⟨_,λ w hC=>?_,hK⟩;have hrun:=(h w hC).look_ok ht hk (hz w) k;unfold Oper.quietAt execOp;simp only[hop,hm,hx,Sem.run_bind,hrun,Result.andThen_ok,Sem.run_pure];exact⟨rfl,rfl⟩
end
def G2(L:Nm)(t:Ts):Ending:=
 if(eI L t).1=0 then .returned (.tuple #[I J (eI L t).2.1,I J (eI L t).2.2])
 else .panicked [{v:=.iface 99 (.agg #[I J (eI L t).1,I J t.2.2.2.2]),recovered:=false}]
theorem um{L:Nm}{t:Ts}{e:Int}(h:eI L t=(e,0,0))(he:e≠0):G2 L t=.panicked [{v:=.iface 99 (.agg #[I J e,I J t.2.2.2.2]),recovered:=false}]:=by unfold G2;rw[h];exact if_neg he
theorem NX{L:Nm}{t:Ts}{a:Nat}{n:Int}(h:eI L t=(0,a,n)):G2 L t=.returned (.tuple #[I J a,I J n]):=by unfold G2;rw[h];exact if_pos rfl
theorem G3{s:BA0}:∀{l:List BA0}{n:Nat},iH s l=O n->n<l.length
 |[],n,h=>by cases h
 |x::l,n,h=>by
  unfold iH at h;by_cases e:s=x
  · rw[if_pos e] at h;cases h;simp
  · rw[if_neg e] at h
    cases hi:iH s l with
    |none=>rw[hi] at h;cases h
    |some m=>rw[hi] at h;cases h;have :=G3 hi;simp;omega
theorem wq(s:BA0)(L:List BA0):fJ s (fF L L.length)=(iH s L).map λ(n:Nat)=>I J n:=by rw[qD,aX]
theorem FJ(s:BA0):fJ s (fF gu 10)=(iH s gu).map λ(n:Nat)=>I J n:=wq s gu
theorem Xg(w:agb):(binOp .eql 112 (.map U) (.map U)).run prog w=.ok (.bool true) w:=aV
theorem SX(b:Nat)(w:agb):(binOp .eql 112 (.map (O b)) (.map U)).run prog w=.ok (.bool false) w:=aV
theorem NY{a:BA0}(h:a≠jw):a.toList.isEmpty=false:=by
 rw[ByteArray.toList_eq];cases he:a.data.toList.isEmpty with
 |false=>rfl
 |true=>
  exfalso
  apply h
  have :a.data.toList=[]:=by simpa using he
  apply Go.WideShapes.bytes_inj
  rw[this];rfl
theorem SY:jw.toList.isEmpty=true:=by rw[ByteArray.toList_eq];rfl
theorem Dc(nm:BA0)(op:Int)(nn:BA0)(n fR:Int)(sb:Nat)(L:Nm)(w:agb)(hS:nQ w sb L)(h1:L.1.length<=1000000)(h2:L.2.length<=1000000):
 Calls prog 156 #[M (O ⟨sb,0,U⟩),.agg #[.string nm,I J op,.string nn,I J n,I J fR]] w λ e w'=>e=G2 L (nm,op,nn,n,fR)/\aZ w w':=by
 obtain⟨ma,mn,m4,m5,m6,hb,hn,ha,h4,h5,h6⟩:=hS;obtain⟨cs,ls⟩:=hb.cl0;have HM:=lQ hn ha h4 h5 h6;clear hb hn ha h4 h5 h6;cases hi:iH nm gu with
 |none=>
  have he:=um (L:=L) (t:=(nm,op,nn,n,fR)) (e:=8) (by unfold eI;rw[hi]) cj;rw[he];have Hf:Hid (fJ nm (fF gu 10)=U):=aG (by rw[FJ,hi];rfl);clear hi he;go_enter func156,ntmps156;go_wp2_with fail;refine bJ _ aV aV ?_
  iterate 6 (go_big_quiet_step (fail))
  go_big_quiet_want
  refine gX _ _ _ rfl 9 3 bC bn (I J 0) pF rfl (λ w9 qh=>by obtain⟨u9,rfl⟩:=qh;exact(HM.q2.below (aj _ _)).below (aT _ _)) nm rfl ?_;rw[Hf.o,Option.getD_none,Option.isSome_none];go_simp;go_big_quiet_on
  repeat(go_big_quiet_step (fail))
  refine wpQuiet_nil (λ v=>?_);go_wp2_with fail;exact⟨rfl,rfl,dE⟩
 |some a=>
  have xY:=G3 hi;have Dd:a<10:=xY;have Hf:Hid (fJ nm (fF gu 10)=O (I J a)):=aG (by rw[FJ,hi];rfl)
  have qi:eI L (nm,op,nn,n,fR)=if op<1\/6<op\/(nn≠jw/\¬(a=4\/a=5\/a=6)) then((10,0,0):Int×Nat×Int)
   else match(if nn=jw then O n else(iH nn (oq L a)).map λ(n:Nat)=>(n:Int)) with
    |none=>(8,0,0)
    |some n=>if n<0\/1000000000<n then(2,0,0) else(0,a,n):=by unfold eI;rw[hi];first|rfl|done
  clear hi xY
  obtain⟨mo,Xh,tu,tH⟩:∃mo:Option Nat,(gj (a:Int) [(4,.map (O m4)),(5,.map (O m5)),(6,.map (O m6))]).getD (.map U)=.map mo/\(mo=U↔¬(a=4\/a=5\/a=6))/\(∀b,mo=O b->cS w b (fF (oq L a) (oq L a).length)):=by
   by_cases e4:a=4
   · subst e4
     exact⟨O m4,rfl,bY,λ b hb=>by cases hb;exact HM.q3⟩
   by_cases e5:a=5
   · subst e5
     exact⟨O m5,rfl,bY,λ b hb=>by cases hb;exact HM.q4⟩
   by_cases e6:a=6
   · subst e6
     exact⟨O m6,rfl,bY,λ b hb=>by cases hb;exact HM.t4⟩
   refine⟨U,?_,by simp[e4,e5,e6],λ b hb=>by cases hb⟩;have f4:¬(a:Int)=4:=ar;have f5:¬(a:Int)=5:=ar;have f6:¬(a:Int)=6:=ar;simp[gj,f4,f5,f6]
  have SZ:=aG Xh;have H2:=aG tH;clear Xh tH;by_cases c1:op<1\/6<op\/(nn≠jw/\¬(a=4\/a=5\/a=6))
  · rw[if_pos c1] at qi
    rw[um qi cj];clear qi
    have c2:op<1\/(¬op<1/\6<op)\/(¬op<1/\¬6<op/\nn≠jw/\mo=U):=by
     rcases c1 with h|h|⟨h,h'⟩
     · exact .inl h
     · by_cases q:op<1
       · exact .inl q
       · exact .inr (.inl ⟨q,h⟩)
     · by_cases q:op<1
       · exact .inl q
       · by_cases q':6<op
         · exact .inr (.inl ⟨q,q'⟩)
         · exact .inr (.inr ⟨q,q',h,tu.2 h'⟩)
    clear c1 tu;rcases c2 with q1|⟨q1,q2⟩|⟨q1,q2,q3,rfl⟩
    · go_enter func156,ntmps156
      go_wp2_with fail;refine bJ _ aV aV ?_
      iterate 6 (go_big_quiet_step (fail))
      go_big_quiet_want
      refine gX _ _ _ rfl 9 3 bC bn (I J 0) pF rfl (λ w9 qh=>by obtain⟨u9,rfl⟩:=qh;exact(HM.q2.below (aj _ _)).below (aT _ _)) nm rfl ?_;rw[Hf.o,dD,gR];go_simp;go_big_quiet_on
      repeat(go_big_quiet_step (fail))
      refine wpQuiet_nil (λ v=>?_);go_wp2_with (at_lookup;refine dQ rfl _ _ _ rfl 3 112 ij aJ (.map U) (vz _) rfl ((HM.q1.below (aj _ _)).below (aT _ _)) a rfl ?_;rw[SZ.o]);exact⟨rfl,rfl,dE⟩
    · go_enter func156,ntmps156
      go_wp2_with fail;refine bJ _ aV aV ?_
      iterate 6 (go_big_quiet_step (fail))
      go_big_quiet_want
      refine gX _ _ _ rfl 9 3 bC bn (I J 0) pF rfl (λ w9 qh=>by obtain⟨u9,rfl⟩:=qh;exact(HM.q2.below (aj _ _)).below (aT _ _)) nm rfl ?_;rw[Hf.o,dD,gR];go_simp;go_big_quiet_on
      repeat(go_big_quiet_step (fail))
      refine wpQuiet_nil (λ v=>?_);go_wp2_with (at_lookup;refine dQ rfl _ _ _ rfl 3 112 ij aJ (.map U) (vz _) rfl ((HM.q1.below (aj _ _)).below (aT _ _)) a rfl ?_;rw[SZ.o]);exact⟨rfl,rfl,dE⟩
    · have q4:=NY q3
      have hq:=Xg;go_enter func156,ntmps156;go_wp2_with fail;refine bJ _ aV aV ?_
      iterate 6 (go_big_quiet_step (fail))
      go_big_quiet_want
      refine gX _ _ _ rfl 9 3 bC bn (I J 0) pF rfl (λ w9 qh=>by obtain⟨u9,rfl⟩:=qh;exact(HM.q2.below (aj _ _)).below (aT _ _)) nm rfl ?_;rw[Hf.o,dD,gR];go_simp;go_big_quiet_on
      repeat(go_big_quiet_step (fail))
      refine wpQuiet_nil (λ v=>?_);go_wp2_with (at_lookup;refine dQ rfl _ _ _ rfl 3 112 ij aJ (.map U) (vz _) rfl ((HM.q1.below (aj _ _)).below (aT _ _)) a rfl ?_;rw[SZ.o]);exact⟨rfl,rfl,dE⟩
  · rw[if_neg c1] at qi
    have q1:¬op<1:=λ h=>c1 (.inl h);have q2:¬6<op:=λ h=>c1 (.inr (.inl h))
    have q3:nn≠jw->∃b,mo=O b:=λ h=>by
     cases Xh:mo with
     |some b=>exact⟨b,rfl⟩
     |none=>exact absurd (.inr (.inr ⟨h,tu.1 Xh⟩)) c1
    clear c1 tu;by_cases qn:nn=jw
    · subst qn
      rw[if_pos rfl] at qi;change eI L (nm,op,jw,n,fR)=(if n<0\/1000000000<n then((2,0,0):Int×Nat×Int) else(0,a,n)) at qi;have q4:=SY;clear q3;by_cases r1:n<0
      · rw[if_pos (.inl r1)] at qi
        rw[um qi cj];clear qi;go_enter func156,ntmps156;go_wp2_with fail;refine bJ _ aV aV ?_
        iterate 6 (go_big_quiet_step (fail))
        go_big_quiet_want
        refine gX _ _ _ rfl 9 3 bC bn (I J 0) pF rfl (λ w9 qh=>by obtain⟨u9,rfl⟩:=qh;exact(HM.q2.below (aj _ _)).below (aT _ _)) nm rfl ?_;rw[Hf.o,dD,gR];go_simp;go_big_quiet_on
        repeat(go_big_quiet_step (fail))
        refine wpQuiet_nil (λ v=>?_);go_wp2_with (at_lookup;refine dQ rfl _ _ _ rfl 3 112 ij aJ (.map U) (vz _) rfl ((HM.q1.below (aj _ _)).below (aT _ _)) a rfl ?_;rw[SZ.o]);exact⟨rfl,rfl,dE⟩
      · by_cases r2:1000000000<n
        · rw[if_pos (.inr r2)] at qi
          rw[um qi cj];clear qi;go_enter func156,ntmps156;go_wp2_with fail;refine bJ _ aV aV ?_
          iterate 6 (go_big_quiet_step (fail))
          go_big_quiet_want
          refine gX _ _ _ rfl 9 3 bC bn (I J 0) pF rfl (λ w9 qh=>by obtain⟨u9,rfl⟩:=qh;exact(HM.q2.below (aj _ _)).below (aT _ _)) nm rfl ?_;rw[Hf.o,dD,gR];go_simp;go_big_quiet_on
          repeat(go_big_quiet_step (fail))
          refine wpQuiet_nil (λ v=>?_);go_wp2_with (at_lookup;refine dQ rfl _ _ _ rfl 3 112 ij aJ (.map U) (vz _) rfl ((HM.q1.below (aj _ _)).below (aT _ _)) a rfl ?_;rw[SZ.o]);exact⟨rfl,rfl,dE⟩
        · rw[if_neg ar] at qi
          rw[NX qi];clear qi;go_enter func156,ntmps156;go_wp2_with fail;refine bJ _ aV aV ?_
          iterate 6 (go_big_quiet_step (fail))
          go_big_quiet_want
          refine gX _ _ _ rfl 9 3 bC bn (I J 0) pF rfl (λ w9 qh=>by obtain⟨u9,rfl⟩:=qh;exact(HM.q2.below (aj _ _)).below (aT _ _)) nm rfl ?_;rw[Hf.o,dD,gR];go_simp;go_big_quiet_on
          repeat(go_big_quiet_step (fail))
          refine wpQuiet_nil (λ v=>?_);go_wp2_with (at_lookup;refine dQ rfl _ _ _ rfl 3 112 ij aJ (.map U) (vz _) rfl ((HM.q1.below (aj _ _)).below (aT _ _)) a rfl ?_;rw[SZ.o]);exact bodyPost_ret (v:=.tuple #[I J a,I J n]) (by simp[results,results156,go_sem]) rfl ⟨rfl,dE⟩
    · obtain⟨b,rfl⟩:=q3 qn
      rw[if_neg qn] at qi;have q4:=NY qn;have hq:=SX;cases ht:iH nn (oq L a) with
      |none=>
       rw[ht] at qi;rw[um qi cj];have Ht:Hid (fJ nn (fF (oq L a) (oq L a).length)=U):=aG (by rw[wq,ht];rfl);clear ht qi;go_enter func156,ntmps156;go_wp2_with fail;refine bJ _ aV aV ?_
       iterate 6 (go_big_quiet_step (fail))
       go_big_quiet_want
       refine gX _ _ _ rfl 9 3 bC bn (I J 0) pF rfl (λ w9 qh=>by obtain⟨u9,rfl⟩:=qh;exact(HM.q2.below (aj _ _)).below (aT _ _)) nm rfl ?_;rw[Hf.o,dD,gR];go_simp;go_big_quiet_on
       repeat(go_big_quiet_step (fail))
       refine wpQuiet_nil (λ v=>?_);go_wp2_with (first|(at_lookup;refine dQ rfl _ _ _ rfl 3 112 ij aJ (.map U) (vz _) rfl ((HM.q1.below (aj _ _)).below (aT _ _)) a rfl ?_;rw[SZ.o])|(at_lookup;refine nO rfl _ _ _ rfl 9 3 bC bn (I J 0) (pF _) rfl (((H2.o b rfl).below (aj _ _)).below (aT _ _)) nn rfl ?_;rw[Ht.o,Option.getD_none,Option.isSome_none]));exact⟨rfl,rfl,dE⟩
      |some k=>
       rw[ht] at qi;have hk:=G3 ht
       have hk2:(oq L a).length<=1000000:=by
        unfold oq;split
        · exact h1
        · split
          · exact h2
          · decide
       have Ht:Hid (fJ nn (fF (oq L a) (oq L a).length)=O (I J k)):=aG (by rw[wq,ht];rfl)
       have JC:eI L (nm,op,nn,n,fR)=(0,a,(k:Int)):=by rw[qi];show(if(k:Int)<0\/1000000000<(k:Int) then((2,0,0):Int×Nat×Int) else(0,a,(k:Int)))=_;rw[if_neg ar]
       rw[NX JC];clear ht qi JC;have k1:¬(k:Int)<0:=ar;have k2:¬1000000000<(k:Int):=ar;clear hk hk2;go_enter func156,ntmps156;go_wp2_with fail;refine bJ _ aV aV ?_
       iterate 6 (go_big_quiet_step (fail))
       go_big_quiet_want
       refine gX _ _ _ rfl 9 3 bC bn (I J 0) pF rfl (λ w9 qh=>by obtain⟨u9,rfl⟩:=qh;exact(HM.q2.below (aj _ _)).below (aT _ _)) nm rfl ?_;rw[Hf.o,dD,gR];go_simp;go_big_quiet_on
       repeat(go_big_quiet_step (fail))
       refine wpQuiet_nil (λ v=>?_);go_wp2_with (first|(at_lookup;refine dQ rfl _ _ _ rfl 3 112 ij aJ (.map U) (vz _) rfl ((HM.q1.below (aj _ _)).below (aT _ _)) a rfl ?_;rw[SZ.o])|(at_lookup;refine nO rfl _ _ _ rfl 9 3 bC bn (I J 0) (pF _) rfl (((H2.o b rfl).below (aj _ _)).below (aT _ _)) nn rfl ?_;rw[Ht.o,dD,gR]));exact bodyPost_ret (v:=.tuple #[I J a,I J (k:Int)]) (by simp[results,results156,go_sem]) rfl ⟨rfl,dE⟩
end
end Go.Proofs.YtbcpcneadjcmlaaGreatDoor
