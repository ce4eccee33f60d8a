import Derived.Test.YtbcpcneadjcmlaaGreatDoorK04
import Derived.LoopIn
import Derived.LoopNIn
import Derived.OrdersIn
import Derived.OwnWalkIn
import Derived.RangeFuncBound
import Derived.RangeFuncCalls
import Derived.RangeFuncLeaves
import Derived.RangeFuncNested
import Derived.Shelf.Abstract
import Derived.Shelf.RegionOpen
import Derived.TacticsInMore
namespace Go.Proofs.YtbcpcneadjcmlaaGreatDoor
open Go.Proofs.Tryz
set_option maxRecDepth 100000
set_option maxHeartbeats 16000000
set_option linter.unusedVariables false
set_option linter.unusedSimpArgs false
open Value renaming int→I,pointer→M
open IntKind renaming i64→J
open Obj renaming cells→D
open Option renaming some→O,none→U
open Go renaming Value→R,World→agb
open List renaming length→agh
section
open Go.RowKit Go.Shelf
attribute [local go_sem] aQ aC bW
attribute [local go_sem] Oper.semAt_some
def tkV(bs:BA0)(t:Tk):Array R:=#[I J t.kind,.string (bs.extract t.s t.e),I J t.n,I J t.s,I J 0]
def PA(W W':agb):Prop:=W.heap.size<=W'.heap.size/\∀(k:Nat)(C:Array R)(t:TypeId),Bk W k C t->t≠234->t≠176->Bk W' k C t
theorem PA.refl(W:agb):PA W W:=⟨ah _,λ _ _ _ h _ _=>h⟩
theorem qB{A B C:agb}(h:PA A B)(k:PA B C):PA A C:=⟨bm h.1 k.1,λ i aak t hb h1 h2=>k.2 i aak t (h.2 i aak t hb h1 h2) h1 h2⟩
theorem ku{W W':agb}(h:aZ W W'):PA W W':=⟨h.size,λ k C t hb _ _=>hb.below h⟩
theorem ad9{w:agb}(W:agb)(l:Nat)(o o':Obj)(_:w.heap.size<=l)(h:W.heap[l]?=O o)(hc:o.isCells=false)(_:o.isWalk=false):PA W (W.putObj l o'):=by
 have hg:=grownBy_putObj' W l o';refine⟨hg.size,λ k C t hb _ _=>(hg.block k hb.lt (λ e=>?_)).trans hb⟩;have hb':W.heap[k]?=O (D C t (0,0)):=hb;obtain rfl:=aO e;rw[hb'] at h;cases h
 cases hc
theorem Lx.kp{w w':agb}{bs:BA0}{tb cb:Nat}(h:Lx w bs tb cb)(hb:PA w w'):Lx w' bs tb cb:=⟨hb.2 _ _ _ h.t cj cj,hb.2 _ _ _ h.c cj cj,hb.2 _ _ _ h.a cj cj⟩
theorem JJ{w X:agb}(h:aZ w X):w.grownBy X U:=⟨h.os,h.tape,h.output,h.size,λ k hk _=>h.block k hk⟩
theorem Xa{bs:BA0}{t:Tk}(h:t.okB bs=true)(hk:t.kind=1):iQ bs t.s=3/\(∀x,x<t.e->t.s<=x->V0 (iQ bs x)=true)/\V0 (iQ bs t.e)=false/\t.e<=t.s+24/\t.n=0:=by unfold Tk.okB at h;rw[if_pos hk] at h;simpa only[aD,decide_eq_true_eq] using h
theorem aaI{bs:BA0}{t:Tk}(h:t.okB bs=true)(hk:t.kind=2):iQ bs t.s=4/\(∀x,x<t.e->t.s<=x->iQ bs x=4)/\V0 (iQ bs t.e)=false/\t.e<=t.s+10/\Lib.atoi (bs.extract t.s t.e).data.toList=O t.n:=by unfold Tk.okB at h;rw[if_neg ar,if_pos hk] at h;simpa only[aD,decide_eq_true_eq] using h
theorem aaJ{bs:BA0}{t:Tk}(h:t.okB bs=true)(h1:¬t.kind=1)(h2:¬t.kind=2):t.kind=3/\t.n=0/\((iQ bs t.s=6/\t.e=t.s+1)\/(iQ bs t.s=7/\t.e=t.s+1/\bs.data[t.s+1]?≠O 61)\/(iQ bs t.s=7/\t.e=t.s+2/\bs.data[t.s+1]?=O 61)):=by
 unfold Tk.okB at h;rw[if_neg h1,if_neg h2] at h;simp only[aD,Bool.or_eq_true,decide_eq_true_eq] at h;obtain⟨a,b,c⟩:=h;refine⟨a,b,?_⟩;rcases c with(c|c)|c
 · exact .inl c
 · exact .inr (.inl c)
 · exact .inr (.inr c)
theorem JK(w:agb)(e:TypeId)(s:BA0):aZ w (Lib.bytesWorld w e s):=
 ⟨rfl,rfl,rfl,by rw[Lib.bytesWorld_size];omega,λ k hk=>Lib.bytesWorld_at_old w e s k hk⟩
theorem PB{c:Int}(h:V0 c=true):(c=3)\/(c=4)\/(c=5):=by unfold V0 at h;simp only[Bool.or_eq_true,beq_iff_eq] at h;omega
theorem NT{c:Int}(h:V0 c=false):(c==3)=false/\(c==4)=false/\(c==5)=false:=by unfold V0 at h;simp only[Bool.or_eq_false_iff] at h;exact⟨h.1.1,h.1.2,h.2⟩
theorem vD{w:agb}{bs:BA0}{tb cb i:Nat}{c:Int}(h:Lx w bs tb cb)(hi:i<=1000000)(hs:bs.size<=1000000)(hc:iQ bs i=c):
 Calls prog 187 #[I J i,M (O ⟨tb,0,U⟩),M (O ⟨cb,0,U⟩)] w λ e w'=>e=.returned (.int .u8 c)/\w'=w:=by
 subst hc;exact aaG bs i cb tb w h.c h.t hi hs
theorem LW(n l tb cb:Nat)(bs:BA0)(T:List Tk)(hT:chainB bs 0 T=true)(hs:bs.size<=1000000)(aae Jx:List (Fin T.length)->agb->Prop)
 (hY:∀pre x W,aae pre W->pre.length<T.length->YieldAt Fence.wide (n - 1) prog l #[.agg (tkV bs T[x.1])] W λ e W'=>(e=.returned (.bool true)/\aae (pre++[x]) W'/\PA W W')\/(e=.returned (.bool false)/\Jx (pre++[x]) W'))
 (W:agb)(hJ:AbidesFrom W.heap.size aae)(hL:Lx W bs tb cb)(h0:aae [] W):
 CallsIn Fence.wide n prog 188 #[.func (.yield l) #[] #[],M (O ⟨tb,0,U⟩),M (O ⟨cb+1,0,U⟩)] W λ e W'=>(∃v,e=.returned v)/\
  ((∃ys:List (Fin T.length),ys.map (·.1)=List.range T.length/\aae ys W')\/(∃pre,True/\Jx pre W')):=by
 have HH:=fH hT h0 hL;clear hT h0 hL;refine callsIn_of_wp func188 rfl trivial ?_ rfl;simp only[ntmps188,List.size_toArray,bD,dG,Nat.reduceAdd,Nat.reduceSub,Array.replicate_succ,Array.replicate_zero,List.push_toArray,lu,eV,eU];refine wpIn_wide.2 (wp_scope_straight ((wpIn_wide (n:=n)).1 ?_));gi_wp2;refine wpIn_label ?_;rename_i K hK;refine hK _ _ ?_;clear hK K;gi_wp2
 gi_loopw [4] (λ i wr=>∃(j k:Nat) (pre:List (Fin T.length)),i=I J j/\pre.map (·.1)=List.range k/\k<=T.length/\chainB bs j (T.drop k)=true/\aae pre wr/\PA W wr)
  (λ i _=>bs.size - (intOf i).toNat)
 case atStart=>exact⟨0,0,[],rfl,rfl,ar,HH.q1,HH.q2,PA.refl _⟩
 case round=>
  obtain⟨j,k,pre,rfl,rM,hk,hch,hJs,yR⟩:=hrel;generalize wr=wA at *;have hLA:=HH.t2.kp yR;have hz:=yR.1;have hjs:=R1 hch;have ct:=hLA.t.cell 0;have lt:=hLA.t.lt;have ca:=hLA.a.cell 0;have la:=hLA.a.lt;by_cases hlt:j<bs.size
  · have aiK:(iQ bs j=1/\chainB bs (j+1) (T.drop k)=true)\/∃kq:k<T.length,j=T[k].s/\T[k].okB bs=true/\T[k].s<T[k].e/\T[k].e<=bs.size/\chainB bs T[k].e (T.drop (k+1))=true:=by
     rcases eC k T.length with q|q
     · rw[List.drop_eq_getElem_cons q] at hch⊢
       by_cases e:j=T[k].s
       · right
         rw[e] at hch;exact⟨q,e,Pf hch⟩
       · left
         have :=Jl hch e;exact⟨this.1,this.2.2⟩
     · rw[List.drop_eq_nil_of_le q] at hch⊢
       exact .inl (Pe hch hlt)
    have rE:(j:Int)<(bs.size:Int):=ar;have FE:Hid (∀X,aZ wA X->Lx X bs tb cb):=aG λ X hX=>hLA.kp (ku hX);rcases aiK with⟨hc1,PC⟩|⟨kq,hj,gU,hse,hes,PC⟩
    · have HR:=uF rM hk PC hJs yR hc1
      clear rM hk PC hJs yR hch hc1;gi_wp2_with (refine⟨trivial,λ h=>(by cases h),?_⟩;gi_at_call 187;refine(callsIn_wide.2 (vD (FE.o _ (aj _ _)) ar hs HR.t5)).mono ?_;rintro e w' ⟨rfl,rfl⟩)
      go_roundw
      case rel=>exact⟨j+1,k,pre,gC,HR.q1,HR.q2,HR.q3,hJ _ _ _ U HR.q4 (World.grownBy_alloc _ _ U) (λ r e=>by cases e),qB HR.q5 (ku (aj _ _))⟩
      case measure=>simp[intOf];omega
    · obtain⟨t,ht⟩:∃t,T[k]=t:=⟨_,rfl⟩
      rw[ht] at hj gU hse hes PC;have Zs:∀X,wA.grownBy X U->aae pre X:=λ X hX=>hJ _ _ _ U hJs hX (λ r e=>by cases e);subst hj;have HR:=lQ rM PC Zs yR ht
      have HYA:Hid (∀(X:agb)(kd m:Int),t.kind=kd->t.n=m->aZ wA X->YieldAt Fence.wide (n - 1) prog l #[.agg #[I J kd,.string (bs.extract t.s t.e),I J m,I J t.s,I J 0]] X λ e W'=>
       (e=.returned (.bool true)/\aae (pre++[⟨k,kq⟩]) W'/\PA X W')\/(e=.returned (.bool false)/\Jx (pre++[⟨k,kq⟩]) W')):=aG λ X kd m e1 e2 hX=>by
       have h:=hY pre ⟨k,kq⟩ _ (HR.q3 _ (JJ hX)) (by have :=congrArg agh HR.q1;simp at this;omega);rw[show T[(⟨k,kq⟩:Fin T.length).1]=t from HR.t4] at h;unfold tkV at h;rw[e1,e2] at h;exact h
      clear rM hk PC hJs yR hch ht Zs;have Rf:∀X,(Instr.slice 9 (.string bs) (O (I J t.s)) (O (I J t.e)) U).run prog X=.ok (.string (bs.extract t.s t.e)) X:=λ X=>run_slice_string X _ bs _ _ _ _ bn ar ar ar;have apm:(t.s:Int)<(t.e:Int):=ar;have apo:(t.e:Int)<=(bs.size:Int):=ar;by_cases q1:t.kind=1
      · obtain⟨k1,k2,k3,k4,k5⟩:=Xa gU q1
        have hK:=lQ k1 k2 k3 k5 q1;have n24:¬(24:Int)<(t.e:Int)- (t.s:Int):=ar;clear k1 k2 k3 k5 q1 gU;gi_wp2_with (refine⟨trivial,λ h=>(by cases h),?_⟩;gi_at_call 187;refine(callsIn_wide.2 (vD (FE.o _ (aj _ _)) ar hs hK.q1)).mono ?_;rintro e w' ⟨rfl,rfl⟩)
        obtain⟨wB,FH⟩:∃x,wA.alloc (D #[I J 0,.string ⟨#[]⟩,I J 0,I J t.s,I J 0] 272)=x:=⟨_,rfl⟩;have hBf:Bk wB wA.heap.size #[I J 0,.string ⟨#[]⟩,I J 0,I J t.s,I J 0] 272:=by rw[<-FH];exact Bk.new _ _ _
        have hBb:aZ wA wB:=by rw[<-FH];exact aj _ _
        rw[FH];have PD:=FE.o _ hBb;have HB:=fH hBf hBb PD;have nt:tb≠wA.heap.size:=ar;have na:cb+1≠wA.heap.size:=ar;clear FH hBf hBb ct ca lt la;have ct:=PD.t.cell 0;have lt:=PD.t.lt;have ca:=PD.a.cell 0;have la:=PD.a.lt;clear PD;gi_loopw [4,7] (λ i c wr=>∃x:Nat,i=I J x/\t.s<=x/\x<=t.e/\c=.int .u8 (iQ bs x)/\wr=wB) (λ i _ _=>bs.size - (intOf i).toNat)
        case atStart=>exact⟨t.s,rfl,ah _,ar,by rw[hK.q1],rfl⟩
        case round=>
         obtain⟨x,rfl,x1,x2,rfl,rfl⟩:=hrel;by_cases hx:x<t.e
         · have mW:=PB (hK.q2 x hx x1)
           rcases mW with hc|hc|hc
           all_goals as_aux_lemma=>
            rw[hc];have HC:=aG hc;clear hc;gi_wp2_with (refine⟨trivial,λ h=>(by cases h),?_⟩;gi_at_call 187;refine(callsIn_wide.2 (vD (i:=x+1) (c:=iQ bs (x+1)) HB.t2 ar hs rfl)).mono ?_;rintro e w' ⟨rfl,rfl⟩)
            go_roundw
            case rel=>exact⟨x+1,gC,ar,ar,rfl,trivial⟩
            case measure=>simp[intOf];omega
         · obtain rfl:x=t.e:=ar
           obtain⟨m1,m2,m3⟩:=NT hK.q3;generalize iQ bs t.e=ce at m1 m2 m3;have cf:=HB.q1.cell;have ff:=HB.q1.free;have lf:=HB.q1.lt;clear x1 x2 hx;have hZ:aZ wA ((wr.setCell ⟨wA.heap.size,0,U⟩ (I J 1)).setCell ⟨wA.heap.size,1,U⟩ (.string (bs.extract t.s t.e))):=(HB.q2.setCell (p:=⟨wA.heap.size,0,U⟩) (ah _) _).setCell (p:=⟨wA.heap.size,1,U⟩) (ah _) _;have Da:Bk ((wr.setCell ⟨wA.heap.size,0,U⟩ (I J 1)).setCell ⟨wA.heap.size,1,U⟩ (.string (bs.extract t.s t.e))) wA.heap.size #[I J 1,.string (bs.extract t.s t.e),I J 0,I J t.s,I J 0] 272:=(HB.q1.aS 0 (I J 1)).aS 1 (.string (bs.extract t.s t.e));obtain⟨fn,tmps,assign,body,hy,SF⟩:=HYA.o _ 1 0 hK.t4 hK.q4 hZ;have HF:=dt hZ Da;clear hZ Da;gi_wp2_with fail
           refine⟨λ h=>(by cases h),SF.mono ?_⟩;rintro e W3 (⟨rfl,hJ3,hk3⟩|⟨rfl,uj⟩)
           · have bf:=hk3.2 _ _ _ HF.t1 cj cj
             have c4:=bf.cell 4;have l4:=bf.lt;clear cf ff lf;have HQ:=dt hJ3 (qB HR.q4 (qB (ku HF.q1) hk3));clear hJ3 hk3 bf;gi_wp2_with fail
             go_roundw
             case rel=>exact⟨t.e,k+1,pre++[⟨k,kq⟩],rfl,by rw[dH,HR.q1,fX];rfl,kq,HR.q2,HQ.q1,HQ.t1⟩
             case measure=>simp[intOf];omega
           · have HQ:=aG uj
             clear uj cf ff lf;gi_wp2_with fail
             simp only[Exit.noGoto];refine bodyPost_ret (results_none results188 _ _ _) rfl ?_;exact⟨⟨_,rfl⟩,.inr ⟨_,trivial,HQ.o⟩⟩
      · by_cases q2:t.kind=2
        · obtain⟨k1,k2,k3,k4,k5⟩:=aaI gU q2
          have hK:=lQ k1 k2 k3 k5 q2;have n10:¬(10:Int)<(t.e:Int)- (t.s:Int):=ar;have hsz:(bs.extract t.s t.e).size<=18:=by rw[ByteArray.size_extract];omega
          clear k1 k2 k3 k5 q1 q2 gU;gi_wp2_with (refine⟨trivial,λ h=>(by cases h),?_⟩;gi_at_call 187;refine(callsIn_wide.2 (vD (FE.o _ (aj _ _)) ar hs hK.q1)).mono ?_;rintro e w' ⟨rfl,rfl⟩)
          obtain⟨wB,FH⟩:∃x,wA.alloc (D #[I J 0,.string ⟨#[]⟩,I J 0,I J t.s,I J 0] 272)=x:=⟨_,rfl⟩;have hBf:Bk wB wA.heap.size #[I J 0,.string ⟨#[]⟩,I J 0,I J t.s,I J 0] 272:=by rw[<-FH];exact Bk.new _ _ _
          have hBb:aZ wA wB:=by rw[<-FH];exact aj _ _
          rw[FH];have PD:=FE.o _ hBb;have HB:=fH hBf hBb PD;have nt:tb≠wA.heap.size:=ar;have na:cb+1≠wA.heap.size:=ar;clear FH hBf hBb ct ca lt la;have ct:=PD.t.cell 0;have lt:=PD.t.lt;have ca:=PD.a.cell 0;have la:=PD.a.lt;clear PD;gi_loopw [4] (λ i wr=>∃x:Nat,i=I J x/\t.s<=x/\x<=t.e/\wr=wB) (λ i _=>bs.size - (intOf i).toNat)
          case atStart=>exact⟨t.s,rfl,ah _,ar,rfl⟩
          case round=>
           obtain⟨x,rfl,x1,x2,rfl⟩:=hrel;by_cases hx:x<t.e
           · as_aux_lemma=>
             gi_wp2_with (refine⟨trivial,λ h=>(by cases h),?_⟩;gi_at_call 187;refine(callsIn_wide.2 (vD (i:=x) HB.t2 ar hs (hK.q2 x hx x1))).mono ?_;rintro e w' ⟨rfl,rfl⟩)
             go_roundw
             case rel=>exact⟨x+1,gC,ar,ar,trivial⟩
             case measure=>simp[intOf];omega
           · obtain rfl:x=t.e:=ar
             obtain⟨m1,m2,m3⟩:=NT hK.q3;have hce:∀X,aZ wA X->Calls prog 187 #[I J t.e,M (O ⟨tb,0,U⟩),M (O ⟨cb,0,U⟩)] X λ e w'=>e=.returned (.int .u8 (iQ bs t.e))/\X=w':=λ X hX=>(vD (FE.o X hX) ar hs rfl).mono λ e w' h=>⟨h.1,h.2.symm⟩;generalize iQ bs t.e=ce at hce m1 m2 m3;have Hce:=aG hce;have cf:=HB.q1.cell;have ff:=HB.q1.free;have lf:=HB.q1.lt;clear x1 x2 hx hce
             gi_wp2_with (first
              |(refine⟨trivial,λ h=>(by cases h),?_⟩;gi_at_call 187;refine(callsIn_wide.2 (Hce.o _ (by first|exact HB.q2|exact HB.q2.setCell (ah _) _))).mono ?_;rintro e w' ⟨rfl,rfl⟩)
              |(refine⟨trivial,λ h=>(by cases h),?_⟩;gi_at_call 189;refine(callsIn_wide.2 (Tryz.strconv_Atoi _ t.n hsz hK.q4 _)).mono ?_;rintro e w' ⟨rfl,tt,hw⟩;have ml:Below (wr.setCell ⟨wA.heap.size,0,U⟩ (I J 2)).heap.size (wr.setCell ⟨wA.heap.size,0,U⟩ (I J 2)) w':=(by rw[hw];exact JK _ _ _);have bw:=(HB.q1.aS 0 (I J 2)).below ml;have cw:=bw.cell;have fw:=bw.free;have lw:=bw.lt;have lx:=FE.o w' (aq (HB.q2.setCell (p:=⟨wA.heap.size,0,U⟩) (ah _) (I J 2)) ml);have ctw:=lx.t.cell 0;have ltw:=lx.t.lt;have HW:=dt ml bw;clear ml bw hw cf ff lf lx;have hZ:aZ wA ((w'.setCell ⟨wA.heap.size,2,U⟩ (I J t.n)).setCell ⟨wA.heap.size,1,U⟩ (.string (bs.extract t.s t.e))):=((aq (HB.q2.setCell (p:=⟨wA.heap.size,0,U⟩) (ah _) (I J 2)) HW.q1).setCell (p:=⟨wA.heap.size,2,U⟩) (ah _) _).setCell (p:=⟨wA.heap.size,1,U⟩) (ah _) _;have Da:Bk ((w'.setCell ⟨wA.heap.size,2,U⟩ (I J t.n)).setCell ⟨wA.heap.size,1,U⟩ (.string (bs.extract t.s t.e))) wA.heap.size #[I J 2,.string (bs.extract t.s t.e),I J t.n,I J t.s,I J 0] 272:=(HW.t1.aS 2 (I J t.n)).aS 1 (.string (bs.extract t.s t.e));obtain⟨fn,tmps,assign,body,hy,SF⟩:=HYA.o _ 2 t.n hK.t4 rfl hZ;have HF:=dt hZ Da;clear hZ Da))
             refine⟨λ h=>(by cases h),SF.mono ?_⟩;rintro e W3 (⟨rfl,hJ3,hk3⟩|⟨rfl,uj⟩)
             · have bf:=hk3.2 _ _ _ HF.t1 cj cj
               have c4:=bf.cell 4;have l4:=bf.lt;clear cw fw lw;have HQ:=dt hJ3 (qB HR.q4 (qB (ku HF.q1) hk3));clear hJ3 hk3 bf;gi_wp2_with fail
               go_roundw
               case rel=>exact⟨t.e,k+1,pre++[⟨k,kq⟩],rfl,by rw[dH,HR.q1,fX];rfl,kq,HR.q2,HQ.q1,HQ.t1⟩
               case measure=>simp[intOf];omega
             · have HQ:=aG uj
               clear uj;gi_wp2_with fail
               simp only[Exit.noGoto];refine bodyPost_ret (results_none results188 _ _ _) rfl ?_;exact⟨⟨_,rfl⟩,.inr ⟨_,trivial,HQ.o⟩⟩
        ·
         obtain⟨hk3,V6,hcs⟩:=aaJ gU q1 q2;have hZ:aZ wA ((wA.alloc (D #[I J 0,.string ⟨#[]⟩,I J 0,I J t.s,I J 0] 272)).setCell ⟨wA.heap.size,0,U⟩ (I J 3)):=(aj wA _).setCell (p:=⟨wA.heap.size,0,U⟩) (ah _) _;rcases hcs with⟨c6,he⟩|⟨c7,he,hne⟩|⟨c7,he,heq⟩
         · have HK:=iM hk3 V6 c6 hZ
           clear hk3 V6 c6 hZ gU q1 q2;have SG:(t.e:Int)=(t.s:Int)+1:=ar;have aaL:∀X,(Instr.slice 9 (.string bs) (O (I J t.s)) (O (I J ((t.s:Int)+1))) U).run prog X=.ok (.string (bs.extract t.s t.e)) X:=λ X=>by have :=Rf X;rw[SG] at this;exact this
           clear he Rf;have hZ:aZ wA (wA.alloc (D #[I J 3,.string (bs.extract t.s t.e),I J 0,I J t.s,I J 0] 272)):=aj wA _;have Da:Bk (wA.alloc (D #[I J 3,.string (bs.extract t.s t.e),I J 0,I J t.s,I J 0] 272)) wA.heap.size #[I J 3,.string (bs.extract t.s t.e),I J 0,I J t.s,I J 0] 272:=Bk.new _ _ _;obtain⟨fn,tmps,assign,body,hy,SF⟩:=HYA.o _ 3 0 HK.q1 HK.q2 hZ;have HF:=dt hZ Da;clear hZ Da;gi_wp2_with (refine⟨trivial,λ h=>(by cases h),?_⟩;gi_at_call 187;refine(callsIn_wide.2 (vD (FE.o _ (by first|exact aj _ _|exact HK.t3)) ar hs HK.q3)).mono ?_;rintro e w' ⟨rfl,rfl⟩)
           refine⟨λ h=>(by cases h),SF.mono ?_⟩;rintro e W3 (⟨rfl,hJ3,hk3⟩|⟨rfl,uj⟩)
           · have bf:=hk3.2 _ _ _ HF.t1 cj cj
             have c4:=bf.cell 4;have l4:=bf.lt;have HQ:=dt hJ3 (qB HR.q4 (qB (ku HF.q1) hk3));clear hJ3 hk3 bf;gi_wp2_with fail
             go_roundw
             case rel=>exact⟨t.e,k+1,pre++[⟨k,kq⟩],by rw[SG],by rw[dH,HR.q1,fX];rfl,kq,HR.q2,HQ.q1,HQ.t1⟩
             case measure=>simp[intOf];omega
           · have HQ:=aG uj
             clear uj;gi_wp2_with fail
             simp only[Exit.noGoto];refine bodyPost_ret (results_none results188 _ _ _) rfl ?_;exact⟨⟨_,rfl⟩,.inr ⟨_,trivial,HQ.o⟩⟩
         · have HK:=iM hk3 V6 c7 hZ
           clear hk3 V6 c7 hZ gU q1 q2;by_cases h1b:t.s+1<bs.size
           · have h1c:(t.s:Int)+1<(bs.size:Int):=ar
             have h61:((((bs[t.s+1]'h1b).toNat:Nat):Int)==61)=false:=by rw[beq_eq_false_iff_ne];intro e;refine hne ((show bs.data[t.s+1]?=O (bs[t.s+1]'h1b) from cP h1b).trans (congrArg O ?_));exact UInt8.toNat_inj.1 (by simpa using Int.ofNat.inj e)
             clear hne;have SG:(t.e:Int)=(t.s:Int)+1:=ar;have aaL:∀X,(Instr.slice 9 (.string bs) (O (I J t.s)) (O (I J ((t.s:Int)+1))) U).run prog X=.ok (.string (bs.extract t.s t.e)) X:=λ X=>by have :=Rf X;rw[SG] at this;exact this
             clear he Rf;have hZ:aZ wA (wA.alloc (D #[I J 3,.string (bs.extract t.s t.e),I J 0,I J t.s,I J 0] 272)):=aj wA _;have Da:Bk (wA.alloc (D #[I J 3,.string (bs.extract t.s t.e),I J 0,I J t.s,I J 0] 272)) wA.heap.size #[I J 3,.string (bs.extract t.s t.e),I J 0,I J t.s,I J 0] 272:=Bk.new _ _ _;obtain⟨fn,tmps,assign,body,hy,SF⟩:=HYA.o _ 3 0 HK.q1 HK.q2 hZ;have HF:=dt hZ Da;clear hZ Da;gi_wp2_with (refine⟨trivial,λ h=>(by cases h),?_⟩;gi_at_call 187;refine(callsIn_wide.2 (vD (FE.o _ (by first|exact aj _ _|exact HK.t3)) ar hs HK.q3)).mono ?_;rintro e w' ⟨rfl,rfl⟩)
             refine⟨λ h=>(by cases h),SF.mono ?_⟩;rintro e W3 (⟨rfl,hJ3,hk3⟩|⟨rfl,uj⟩)
             · have bf:=hk3.2 _ _ _ HF.t1 cj cj
               have c4:=bf.cell 4;have l4:=bf.lt;have HQ:=dt hJ3 (qB HR.q4 (qB (ku HF.q1) hk3));clear hJ3 hk3 bf;gi_wp2_with fail
               go_roundw
               case rel=>exact⟨t.e,k+1,pre++[⟨k,kq⟩],by rw[SG],by rw[dH,HR.q1,fX];rfl,kq,HR.q2,HQ.q1,HQ.t1⟩
               case measure=>simp[intOf];omega
             · have HQ:=aG uj
               clear uj;gi_wp2_with fail
               simp only[Exit.noGoto];refine bodyPost_ret (results_none results188 _ _ _) rfl ?_;exact⟨⟨_,rfl⟩,.inr ⟨_,trivial,HQ.o⟩⟩
           · have h1c:¬(t.s:Int)+1<(bs.size:Int):=ar
             clear hne;have SG:(t.e:Int)=(t.s:Int)+1:=ar;have aaL:∀X,(Instr.slice 9 (.string bs) (O (I J t.s)) (O (I J ((t.s:Int)+1))) U).run prog X=.ok (.string (bs.extract t.s t.e)) X:=λ X=>by have :=Rf X;rw[SG] at this;exact this
             clear he Rf;have hZ:aZ wA (wA.alloc (D #[I J 3,.string (bs.extract t.s t.e),I J 0,I J t.s,I J 0] 272)):=aj wA _;have Da:Bk (wA.alloc (D #[I J 3,.string (bs.extract t.s t.e),I J 0,I J t.s,I J 0] 272)) wA.heap.size #[I J 3,.string (bs.extract t.s t.e),I J 0,I J t.s,I J 0] 272:=Bk.new _ _ _;obtain⟨fn,tmps,assign,body,hy,SF⟩:=HYA.o _ 3 0 HK.q1 HK.q2 hZ;have HF:=dt hZ Da;clear hZ Da;gi_wp2_with (refine⟨trivial,λ h=>(by cases h),?_⟩;gi_at_call 187;refine(callsIn_wide.2 (vD (FE.o _ (by first|exact aj _ _|exact HK.t3)) ar hs HK.q3)).mono ?_;rintro e w' ⟨rfl,rfl⟩)
             refine⟨λ h=>(by cases h),SF.mono ?_⟩;rintro e W3 (⟨rfl,hJ3,hk3⟩|⟨rfl,uj⟩)
             · have bf:=hk3.2 _ _ _ HF.t1 cj cj
               have c4:=bf.cell 4;have l4:=bf.lt;have HQ:=dt hJ3 (qB HR.q4 (qB (ku HF.q1) hk3));clear hJ3 hk3 bf;gi_wp2_with fail
               go_roundw
               case rel=>exact⟨t.e,k+1,pre++[⟨k,kq⟩],by rw[SG],by rw[dH,HR.q1,fX];rfl,kq,HR.q2,HQ.q1,HQ.t1⟩
               case measure=>simp[intOf];omega
             · have HQ:=aG uj
               clear uj;gi_wp2_with fail
               simp only[Exit.noGoto];refine bodyPost_ret (results_none results188 _ _ _) rfl ?_;exact⟨⟨_,rfl⟩,.inr ⟨_,trivial,HQ.o⟩⟩
         · have HK:=iM hk3 V6 c7 hZ
           clear hk3 V6 c7 hZ gU q1 q2;have h1b:t.s+1<bs.size:=ar;have h1c:(t.s:Int)+1<(bs.size:Int):=ar;have h61:bs[t.s+1]'h1b=61:=aO ((show bs.data[t.s+1]?=O (bs[t.s+1]'h1b) from cP h1b).symm.trans heq);have SG:(t.e:Int)=(t.s:Int)+1+1:=ar;have aaL:∀X,(Instr.slice 9 (.string bs) (O (I J t.s)) (O (I J ((t.s:Int)+1+1))) U).run prog X=.ok (.string (bs.extract t.s t.e)) X:=λ X=>by have :=Rf X;rw[SG] at this;exact this
           clear he Rf;have hZ:aZ wA (wA.alloc (D #[I J 3,.string (bs.extract t.s t.e),I J 0,I J t.s,I J 0] 272)):=aj wA _;have Da:Bk (wA.alloc (D #[I J 3,.string (bs.extract t.s t.e),I J 0,I J t.s,I J 0] 272)) wA.heap.size #[I J 3,.string (bs.extract t.s t.e),I J 0,I J t.s,I J 0] 272:=Bk.new _ _ _;obtain⟨fn,tmps,assign,body,hy,SF⟩:=HYA.o _ 3 0 HK.q1 HK.q2 hZ;have HF:=dt hZ Da;clear hZ Da;gi_wp2_with (refine⟨trivial,λ h=>(by cases h),?_⟩;gi_at_call 187;refine(callsIn_wide.2 (vD (FE.o _ (by first|exact aj _ _|exact HK.t3)) ar hs HK.q3)).mono ?_;rintro e w' ⟨rfl,rfl⟩)
           refine⟨λ h=>(by cases h),SF.mono ?_⟩;rintro e W3 (⟨rfl,hJ3,hk3⟩|⟨rfl,uj⟩)
           · have bf:=hk3.2 _ _ _ HF.t1 cj cj
             have c4:=bf.cell 4;have l4:=bf.lt;have HQ:=dt hJ3 (qB HR.q4 (qB (ku HF.q1) hk3));clear hJ3 hk3 bf;gi_wp2_with fail
             go_roundw
             case rel=>exact⟨t.e,k+1,pre++[⟨k,kq⟩],by rw[SG],by rw[dH,HR.q1,fX];rfl,kq,HR.q2,HQ.q1,HQ.t1⟩
             case measure=>simp[intOf];omega
           · have HQ:=aG uj
             clear uj;gi_wp2_with fail
             simp only[Exit.noGoto];refine bodyPost_ret (results_none results188 _ _ _) rfl ?_;exact⟨⟨_,rfl⟩,.inr ⟨_,trivial,HQ.o⟩⟩
  · obtain rfl:j=bs.size:=ar
    have JL:k=T.length:=by
     rcases eC k T.length with q|q
     · rw[List.drop_eq_getElem_cons q] at hch
       exact absurd (LG hch) (Nat.lt_irrefl _)
     · omega
    have HR:=fH rM hJs JL;clear rM hJs JL;gi_wp2;simp only[Exit.noGoto];go_end0;exact⟨⟨_,rfl⟩,.inl ⟨pre,HR.q1.trans (congrArg List.range HR.t2),HR.q2⟩⟩
end
end Go.Proofs.YtbcpcneadjcmlaaGreatDoor
