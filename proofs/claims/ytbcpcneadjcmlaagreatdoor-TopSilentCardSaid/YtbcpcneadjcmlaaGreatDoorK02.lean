import Derived.Test.YtbcpcneadjcmlaaGreatDoorK01
import Derived.Deep.DeepCutAuto
import Derived.Lay
import Derived.Lib.AppendIntMem
import Derived.Lib.ItoaLen
import Derived.Lib.LaidU8
import Derived.Outline
import Derived.SevenTiedAt
import Derived.Stop.Joined
import Derived.Test.YtbcpcneadjcmlaaGreatDoorCards
import Derived.Test.YtbcpcneadjcmlaaGreatDoorRows
import Derived.Test.YtbcpcneadjcmlaaGreatDoorTie
namespace Go.Proofs.YtbcpcneadjcmlaaGreatDoor
open Go.Proofs.Tryz
set_option maxRecDepth 100000
set_option maxHeartbeats 16000000
set_option linter.unusedVariables false
set_option linter.unusedSimpArgs false
open Value renaming int→I,slice→G,pointer→M
open IntKind renaming i64→J
open Obj renaming cells→D
open Option renaming some→O,none→U
open Go renaming Value→R,World→agb
section
open Go.RowKit
section
variable{P:Program}{ops:Array Oper}{md:Region.Mode}{S:agb->Prop}{Q:lC}{s:Nat}
def DD(md:Region.Mode)(ops:Array Oper)(n:Nat):Bool:=
 (List.range ops.size).all λ t=>decide (t<=n)||(List.range t).any λ u=>decide (n<=u)&&Region.waitsFor md ops t u
theorem Kl{n:Nat}{listed:Array Bool}(hs:Region.sinkB md ops n=true)(hc:DD md ops n=true)(hn:n<ops.size)(inv:HeadInv md ops n listed):
 ∀(d i:Nat),n - i=d->i<n->listed.getD i true=false->∀t,n<=t->t∉Region.ready md ops listed:=by
 intro d;induction d using Nat.strongRecOn with
 |_ d ih=>
  intro i hd hi Ld t ht hr;obtain⟨_,ot,Xs,hall⟩:=mem_ready.1 hr;have ajl:t<ops.size:=(iX.1 Xs).1;by_cases htn:t=n
  · subst htn
    have h1:=cY.1 hs i (bG.2 hi);obtain⟨j,hj,hj2⟩:=eD.1 h1;simp only[aD,decide_eq_true_eq] at hj2;obtain⟨oj,lJ,e,he,hb,pY⟩:=Region.waitsFor_spec hj2.2;have aqt:j<=t:=by have :=bG.1 hj;omega
    by_cases hjt:j=t
    · subst hjt
      have :oj=ot:=aO (lJ.symm.trans Xs);subst this;have h2:=hall e he hb;rw[pY,getD_both Ld] at h2;cases h2
    · cases hl:listed.getD j false with
      |true=>
       have h2:=inv.closed j oj lJ hl e he hb;rw[pY,getD_both Ld] at h2;cases h2
      |false=>
       have hjs:j<listed.size:=by rw[inv.size];omega
       exact ih (t - j) ar j rfl ar (getD_in hjs hl) t (ah _) hr
  · have h1:=cY.1 hc t (bG.2 ajl)
    simp only[Bool.or_eq_true,decide_eq_true_eq] at h1;rcases h1 with h1|h1
    · omega
    · obtain⟨u,hu,hu2⟩:=eD.1 h1
      simp only[aD,decide_eq_true_eq] at hu2;have hut:=bG.1 hu;obtain⟨o',uH,e,he,hb,pY⟩:=Region.waitsFor_spec hu2.2;have :o'=ot:=aO (uH.symm.trans Xs);subst this;have h2:=hall e he hb;rw[pY,getD_both (inv.tail u hu2.1 ar)] at h2;cases h2
def pQ(P:Program)(md:Region.Mode)(ops:Array Oper)(Q:lC)(S:agb->Prop)(s:Nat):Nat->Array Bool->xD
 |0,listed,a,w=>Region.ready md ops listed=[]/\Q .normal a w
 |fuel+1,listed,a,w=>
  (Region.ready md ops listed=[]->Q .normal a w)/\
  ∀i∈Region.ready md ops listed,wpOp P ops Q i (λ a' w'=>(i<s->S w')/\pQ P md ops Q S s fuel (listed.setIfInBounds i true) a' w') a w
theorem DF:∀(fuel:Nat)(listed:Array Bool)(a:Act)(w:agb),pQ P md ops Q S s fuel listed a w->wpAny P md ops Q fuel listed a w
 |0,_,_,_,h=>h
 |fuel+1,_,_,_,h=>⟨h.1,λ i hi=>wpOp_mono (λ a' w' h'=>DF fuel _ a' w' h'.2) (h.2 i hi)⟩
theorem Hw{i:Nat}{oi:Oper}{v:R}(hi:ops[i]?=O oi)(oM:∀(j:Nat)(o:Oper) cs b,ops[j]?=O o->o.op≠ .select cs b)
 (hQ:∀c a w,Q (.panic c) (a.put oi.dst v) w->Q (.panic c) a w)(hs:Region.sinkB md ops s=true)(hc:DD md ops s=true)(hn:s<ops.size)(RG:i<s):
 ∀(fuel:Nat)(listed:Array Bool)(a:Act)(w:agb),HeadInv md ops s listed->
  (∀j oj,ops[j]?=O oj->j≠i->listed.getD j true=false->(∀e∈oj.after,Region.binds md e=true->e.on≠i)->oi.apart ops oj=true)->
  i∈Region.ready md ops listed->YieldsIf P ops S oi v a->S w->
  pQ P md ops Q S s fuel (listed.setIfInBounds i true) (a.put oi.dst v) w->pQ P md ops Q S s (fuel+1) listed a w:=by
 intro fuel;induction fuel with
 |zero=>
  intro listed a w inv _ hr hy hS H;refine⟨λ h=>(by rw[h] at hr;cases hr),λ j hj=>?_⟩;by_cases AV:j=i
  · subst AV;exact hy.wpOp hi hS ⟨λ _=>hS,H⟩
  · have :=ready_mono hj AV
    rw[H.1] at this;cases this
 |succ fuel ih=>
  intro listed a w inv Ac hr hy hS H;refine⟨λ h=>(by rw[h] at hr;cases hr),λ j hj=>?_⟩;by_cases AV:j=i
  · subst AV;exact hy.wpOp hi hS ⟨λ _=>hS,H⟩
  · have Ld:=(mem_ready.1 hr).1
    have hjs:j<s:=by
     rcases eC j s with h|h
     · exact h
     · exact absurd hj (Kl hs hc hn inv _ i rfl RG Ld j h)
    have h1:=H.2 j (ready_mono hj AV);obtain⟨R9,oj,lJ,hall⟩:=mem_ready.1 hj
    have aaq:∀e∈oj.after,Region.binds md e=true->e.on≠i:=λ e he hb heq=>by have h1:=hall e he hb;rw[heq,getD_both Ld] at h1;cases h1
    have h2:=wpOp_putIf lJ (Ac j oj lJ AV R9 aaq) (λ cs b=>oM i oi cs b hi) (λ cs b=>oM j oj cs b lJ) hQ hy h1
    have LJ:∀k ok,ops[k]?=O ok->k≠i->(listed.setIfInBounds j true).getD k true=false->
     (∀e∈ok.after,Region.binds md e=true->e.on≠i)->oi.apart ops ok=true:=λ k ok hk Ny Ld hno=>by
     refine Ac k ok hk Ny ?_ hno;by_cases hjk:j=k
     · subst hjk;exact R9
     · rw[getD_set_ne true hjk] at Ld;exact Ld
    refine wpOp_mono (λ a' w' h3=>⟨h3.2.1,ih (listed.setIfInBounds j true) a' w' (inv.set hj hjs) LJ (ready_mono hr (Ne.symm AV)) h3.1 (h3.2.1 hjs) ?_⟩) h2;rw[Array.setIfInBounds_comm _ _ AV];exact h3.2.2
def DG(md:Region.Mode)(ops:Array Oper)(s:Nat)(jK:List (List Nat×List Nat)):List (List Nat×List Nat)->Array Bool->Bool
 |[],listed=>Ab md ops jK listed&&(List.range s).all λ i=>listed.getD i false
 |(q,r)::rest,listed=>qV md ops s q listed&&vA md ops s r (iB listed q)&&DG md ops s jK rest (iB (iB listed q) r)
theorem Av(oM:Region.noSelect ops=true)(hs:Region.sinkB md ops s=true)(hc:DD md ops s=true)(hn:s<ops.size){fuel:Nat}{w:agb}(hS:S w):∀(q:List Nat)(listed:Array Bool)(a:Act),HeadInv md ops s listed->qV md ops s q listed=true->
 wpQuiet P ops S (λ a'=>pQ P md ops (gq Q) S s fuel (iB listed q) a' w) (q.map (aW ops.toList)) a->pQ P md ops (gq Q) S s (q.length+fuel) listed a w
 |[],listed,a,_,_,h=>by
  simp only[dG,bX];exact h
 |i::q,listed,a,inv,hB,h=>by
  simp only[qV,aD,decide_eq_true_eq] at hB;obtain⟨⟨⟨⟨h1,h2⟩,h3⟩,h4⟩,h5⟩:=hB;have ho:=iZ (ops:=ops) (show i<ops.size from ar)
  have hq:qOp P ops S i (wpQuiet P ops S (λ a'=>pQ P md ops (gq Q) S s fuel (iB (listed.setIfInBounds i true) q) a' w) (q.map (aW ops.toList))) a:=by unfold qOp;simp only[ho];exact h
  obtain⟨v,hy,hK⟩:=yieldsIn_of_qOp ho hq;have e:(i::q).length+fuel=(q.length+fuel)+1:=by simp only[bD];omega
  rw[e];have hr:i∈Region.ready md ops listed:=by simpa using h3
  exact Hw ho (Region.noSelect_spec oM) (λ _ _ _ h=>h) hs hc hn h1 _ listed a w inv (Region.free_spec ho h4) hr (ub h2 hy) hS (Av oM hs hc hn hS q _ _ (inv.set hr h1) h5 hK)
theorem DI{fuel:Nat}{K:xD}:∀(r:List Nat)(listed:Array Bool)(a:Act)(w:agb),S w->vA md ops s r listed=true->s<ops.size->
 (∀a' w',S w'->K a' w'->pQ P md ops (gq Q) S s fuel (iB listed r) a' w')->ox P ops S Q K (r.map (aW ops.toList)) a w->pQ P md ops (gq Q) S s (r.length+fuel) listed a w
 |[],listed,a,w,hS,_,_,hK,h=>by
  simp only[dG,bX];exact hK a w hS h
 |i::r,listed,a,w,hS,hB,hn,hK,h=>by
  simp only[vA,aD,decide_eq_true_eq] at hB;obtain⟨⟨h1,h2⟩,h3⟩:=hB;have ho:=iZ (ops:=ops) (show i<ops.size from ar);have e:(i::r).length+fuel=(r.length+fuel)+1:=by simp only[bD];omega
  rw[e];refine⟨λ h0=>(by rw[h2] at h0;cases h0),λ j hj=>?_⟩;rw[h2] at hj;obtain rfl:j=i:=by simpa using hj
  exact wpOp_mono (λ a' w' h'=>⟨λ _=>h'.1,DI r _ a' w' h'.1 h3 hn hK h'.2⟩) (kV ho h)
theorem F6:∀(fuel:Nat)(listed:Array Bool)(a:Act)(w:agb),(∀i,i<s->listed.getD i false=true)->wpAnyH P md ops Q (λ _=>True) fuel listed a w->pQ P md ops Q S s fuel listed a w
 |0,_,_,_,_,h=>h
 |fuel+1,listed,_,_,hl,h=>⟨h.1,λ i hi=>wpOp_mono (λ a' w' h'=>⟨λ hlt=>(by
  have h1:=hl i hlt;rw[getD_both (mem_ready.1 hi).1] at h1;exact absurd h1 cj),F6 fuel _ a' w' (λ k hk=>getD_set_true (hl k hk)) h'.2⟩) (h.2 i hi)⟩
theorem F7(oM:Region.noSelect ops=true)(hs:Region.sinkB md ops s=true)(hc:DD md ops s=true)(hn:s<ops.size)(jK:List (List Nat×List Nat)):∀(fY:List (List Nat×List Nat))(listed:Array Bool)(a:Act)(w:agb),S w->HeadInv md ops s listed->DG md ops s jK fY listed=true->
 nP P ops S Q (λ a w=>pH P ops (λ _=>True) Q (jK.map λ p=>(p.1.map (aW ops.toList),p.2.map (aW ops.toList))) a w) (fY.map λ p=>(p.1.map (aW ops.toList),p.2.map (aW ops.toList))) a w->pQ P md ops (gq Q) S s (ez fY+ez jK) listed a w
 |[],listed,a,w,hS,inv,hB,h=>by
  simp only[DG,aD] at hB;obtain⟨h1,h2⟩:=hB;rw[show ez ([]:List (List Nat×List Nat))+ez jK=ez jK from bX _];exact F6 _ _ _ _ (λ i hi=>cY.1 h2 i (bG.2 hi)) (CV oM jK listed a w trivial h1 h)
 |(q,r)::rest,listed,a,w,hS,inv,hB,h=>by
  simp only[DG,aD] at hB;obtain⟨⟨h1,h2⟩,h3⟩:=hB;have e:ez ((q,r)::rest)+ez jK=q.length+(r.length+(ez rest+ez jK)):=by show q.length+(r.length+ez rest)+ez jK=_;omega
  rw[e];refine Av oM hs hc hn hS q listed a inv h1 ?_;exact quiet_mono _ _ _ _ (λ a' ha=>DI r _ a' w hS h2 hn (λ a2 w2 FA hK=>F7 oM hs hc hn jK rest _ a2 w2 FA (ud r _ h2 (pI q _ h1 inv)) h3 hK) ha) h
end
theorem P9{P:Program}{l:List Oper}{Q:lC}{a:Act}{w:agb}{jK:List (List Nat×List Nat)}(h:lL P l (λ _=>True) Q (Q .normal) jK a w):pH P l.toArray (λ _=>True) Q (jK.map λ p=>(p.1.map (aW l),p.2.map (aW l))) a w:=CZ _ _ _ h
theorem Ia{P:Program}{id:Nat}{Q:lC}{a:Act}{w:agb}{l:List Oper}(S:agb->Prop)(fY:List (List Nat×List Nat))(s:Nat)(jK:List (List Nat×List Nat))(hm:P.follows .mixedOrders=true)
 (hB:(Region.noSelect l.toArray&&decide (ez fY+ez jK=l.length)&&decide (s<l.length)&&Region.sinkB .any l.toArray s&&DD .any l.toArray s&&DG .any l.toArray s jK fY (Array.replicate l.length false))=true)(hS:S w.drew)
 (h:lL P l S Q (λ a w=>pH P l.toArray (λ _=>True) Q (jK.map λ p=>(p.1.map (aW l),p.2.map (aW l))) a w) fY a w.drew):(Code.region id l.toArray true).wp P Q a w:=by
 simp only[aD,decide_eq_true_eq] at hB;obtain⟨⟨⟨⟨⟨h1,h2⟩,h3⟩,h4⟩,h5⟩,h6⟩:=hB;refine Code.wp_mono (Q:=gq Q) (λ e a w h=>?_) ?_
 · cases e with
   |normal=>exact h
   |_=>exact h.elim
 · refine wp_region_any hm (DF (S:=S) (s:=s) _ _ _ _ ?_)
   have GP:HeadInv .any l.toArray s (Array.replicate l.length false):=
    ⟨bY,λ j oj _ hl=>(by rw[getD_replicate_false] at hl;cases hl),λ t _ ht=>getD_in (by simpa using ht) (getD_replicate_false _ _)⟩
   have :=F7 (P:=P) (md:=.any) (S:=S) (Q:=Q) h1 h4 h5 (by simpa using h3) jK fY (Array.replicate l.length false) a w.drew hS GP h6 (by simpa [lL] using h);rw[h2] at this;simpa using this
section
variable{P:Program}{ops:Array Oper}{md:Region.Mode}{S:agb->Prop}{Q:lC}{s:Nat}{K:xD}{fuel:Nat}
def C8(md:Region.Mode)(ops:Array Oper)(s:Nat):List (List Nat×List Nat)->Array Bool->Bool
 |[],_=>true
 |(q,r)::rest,listed=>qV md ops s q listed&&vA md ops s r (iB listed q)&&C8 md ops s rest (iB (iB listed q) r)
def uh:List (List Nat×List Nat)->Array Bool->Array Bool
 |[],listed=>listed
 |(q,r)::rest,listed=>uh rest (iB (iB listed q) r)
theorem zf:∀(fY:List (List Nat×List Nat))(listed:Array Bool),C8 md ops s fY listed=true->HeadInv md ops s listed->HeadInv md ops s (uh fY listed)
 |[],_,_,inv=>inv
 |(q,r)::rest,listed,hB,inv=>by
  simp only[C8,aD] at hB;obtain⟨⟨h1,h2⟩,h3⟩:=hB;exact zf rest _ h3 (ud r _ h2 (pI q _ h1 inv))
theorem wo(oM:Region.noSelect ops=true)(hs:Region.sinkB md ops s=true)(hc:Region.chainB md ops s=true)(hn:s<ops.size):∀(fY:List (List Nat×List Nat))(listed:Array Bool)(a:Act)(w:agb),S w->HeadInv md ops s listed->C8 md ops s fY listed=true->
 (∀a' w',S w'->K a' w'->wpAnyS P md ops (gq Q) S s fuel (uh fY listed) a' w')->
 nP P ops S Q K (fY.map λ p=>(p.1.map (aW ops.toList),p.2.map (aW ops.toList))) a w->wpAnyS P md ops (gq Q) S s (ez fY+fuel) listed a w
 |[],listed,a,w,hS,inv,hB,hK,h=>by
  rw[show ez ([]:List (List Nat×List Nat))+fuel=fuel from bX _];exact hK a w hS h
 |(q,r)::rest,listed,a,w,hS,inv,hB,hK,h=>by
  simp only[C8,aD] at hB;obtain⟨⟨h1,h2⟩,h3⟩:=hB;have e:ez ((q,r)::rest)+fuel=q.length+(r.length+(ez rest+fuel)):=by show q.length+(r.length+ez rest)+fuel=_;omega
  rw[e];refine ue oM hs hc hn hS q listed a inv h1 ?_;exact quiet_mono _ _ _ _ (λ a' ha=>wk r _ a' w hS h2 hn (λ a2 w2 FA hK2=>wo oM hs hc hn rest _ a2 w2 FA (ud r _ h2 (pI q _ h1 inv)) h3 hK hK2) ha) h
def ad5(md:Region.Mode)(ops:Array Oper)(s i j k:Nat)(L:Array Bool):Bool:=
 decide (i<s)&&decide (j<s)&&decide (k<s)&&decide (Region.ready md ops L=[i,k])&&decide (Region.ready md ops (L.setIfInBounds i true)=[j,k])&&decide (Region.ready md ops (L.setIfInBounds k true)=[i])&&
  decide (Region.ready md ops ((L.setIfInBounds i true).setIfInBounds j true)=[k])&&decide (Region.ready md ops ((L.setIfInBounds i true).setIfInBounds k true)=[j])&&decide (Region.ready md ops ((L.setIfInBounds k true).setIfInBounds i true)=[j])&&
  decide (((L.setIfInBounds i true).setIfInBounds k true).setIfInBounds j true=((L.setIfInBounds i true).setIfInBounds j true).setIfInBounds k true)&&decide (((L.setIfInBounds k true).setIfInBounds i true).setIfInBounds j true=((L.setIfInBounds i true).setIfInBounds j true).setIfInBounds k true)
def vh(P:Program)(ops:Array Oper)(S:agb->Prop)(Q:lC)(K:xD)(i:Nat)(a:Act)(w:agb):Prop:=wpList P ops (Exit.then (Nxt S K) (gq Q)) [aW ops.toList i] a w
def ad6(P:Program)(ops:Array Oper)(S:agb->Prop)(Q:lC)(K:xD)(i j k:Nat)(a:Act)(w:agb):Prop:=
 vh P ops S Q (λ a w=>vh P ops S Q (vh P ops S Q K k) j a w/\vh P ops S Q (vh P ops S Q K j) k a w) i a w/\vh P ops S Q (vh P ops S Q (vh P ops S Q K j) i) k a w
theorem uP{L:Array Bool}{i:Nat}{a:Act}{w:agb}(hn:i<ops.size)(hr:Region.ready md ops L=[i])(hK:∀a' w',S w'->K a' w'->wpAnyS P md ops (gq Q) S s fuel (L.setIfInBounds i true) a' w')(h:vh P ops S Q K i a w):wpAnyS P md ops (gq Q) S s (fuel+1) L a w:=
 ⟨λ h0=>(by rw[hr] at h0;cases h0),λ t ht=>by
  rw[hr] at ht;obtain rfl:t=i:=by simpa using ht
  exact wpOp_mono (λ a' w' h'=>⟨λ _=>h'.1,hK a' w' h'.1 h'.2⟩) (kV (iZ hn) h)⟩
theorem acY{i j k:Nat}{L:Array Bool}{a:Act}{w:agb}(hn:s<ops.size)(hB:ad5 md ops s i j k L=true)(hK:∀a' w',S w'->K a' w'->wpAnyS P md ops (gq Q) S s fuel (((L.setIfInBounds i true).setIfInBounds j true).setIfInBounds k true) a' w')
 (h:ad6 P ops S Q K i j k a w):wpAnyS P md ops (gq Q) S s (fuel+3) L a w:=by
 unfold ad5 at hB;simp only[aD,decide_eq_true_eq] at hB;obtain⟨⟨⟨⟨⟨⟨⟨⟨⟨⟨h1,h2⟩,h3⟩,r0⟩,r1⟩,r2⟩,r3⟩,r4⟩,r5⟩,e1⟩,e2⟩:=hB;refine⟨λ h0=>(by rw[r0] at h0;cases h0),λ t ht=>?_⟩;rw[r0] at ht;simp only[aR,bH,or_false] at ht;rcases ht with rfl|rfl
 · refine wpOp_mono (λ a' w' h'=>⟨λ _=>h'.1,?_⟩) (kV (iZ ar) h.1)
   refine⟨λ h0=>(by rw[r1] at h0;cases h0),λ t ht=>?_⟩;rw[r1] at ht;simp only[aR,bH,or_false] at ht;rcases ht with rfl|rfl
   · exact wpOp_mono (λ a' w' h'=>⟨λ _=>h'.1,uP ar r3 hK h'.2⟩) (kV (iZ ar) h'.2.1)
   · exact wpOp_mono (λ a' w' h'=>⟨λ _=>h'.1,uP ar r4 (by rw[e1];exact hK) h'.2⟩) (kV (iZ ar) h'.2.2)
 · refine wpOp_mono (λ a' w' h'=>⟨λ _=>h'.1,?_⟩) (kV (iZ ar) h.2)
   exact uP ar r2 (λ a2 w2 _ hh=>uP ar r5 (by rw[e2];exact hK) hh) h'.2
end
section
variable{P:Program}{ops:Array Oper}{md:Region.Mode}{S:agb->Prop}{Q:lC}{s:Nat}{K:xD}{fuel:Nat}
def NP(md:Region.Mode)(ops:Array Oper)(s i k:Nat)(L:Array Bool):Bool:=
 decide (i<s)&&decide (k<s)&&decide (Region.ready md ops L=[i,k])&&decide (Region.ready md ops (L.setIfInBounds i true)=[k])&&decide (Region.ready md ops (L.setIfInBounds k true)=[i])&&decide ((L.setIfInBounds k true).setIfInBounds i true=(L.setIfInBounds i true).setIfInBounds k true)
def LQ(P:Program)(ops:Array Oper)(S:agb->Prop)(Q:lC)(K:xD)(i k:Nat)(a:Act)(w:agb):Prop:=
 vh P ops S Q (vh P ops S Q K k) i a w/\vh P ops S Q (vh P ops S Q K i) k a w
theorem LR{i k:Nat}{L:Array Bool}{a:Act}{w:agb}(hn:s<ops.size)(hB:NP md ops s i k L=true)(hK:∀a' w',S w'->K a' w'->wpAnyS P md ops (gq Q) S s fuel ((L.setIfInBounds i true).setIfInBounds k true) a' w')
 (h:LQ P ops S Q K i k a w):wpAnyS P md ops (gq Q) S s (fuel+2) L a w:=by
 unfold NP at hB;simp only[aD,decide_eq_true_eq] at hB;obtain⟨⟨⟨⟨⟨h1,h3⟩,r0⟩,r1⟩,r2⟩,e1⟩:=hB;refine⟨λ h0=>(by rw[r0] at h0;cases h0),λ t ht=>?_⟩;rw[r0] at ht;simp only[aR,bH,or_false] at ht;rcases ht with rfl|rfl
 · refine wpOp_mono (λ a' w' h'=>⟨λ _=>h'.1,?_⟩) (kV (iZ ar) h.1)
   exact uP ar r1 hK h'.2
 · refine wpOp_mono (λ a' w' h'=>⟨λ _=>h'.1,?_⟩) (kV (iZ ar) h.2)
   exact uP ar r2 (by rw[e1];exact hK) h'.2
end
theorem ui{P:Program}{id:Nat}{Q:lC}{a:Act}{w:agb}{l:List Oper}(S:agb->Prop)(fY:List (List Nat×List Nat))(i k:Nat)(jK:List (List Nat×List Nat))(s:Nat)(hm:P.follows .mixedOrders=true)
 (hB:(Region.noSelect l.toArray&&decide (ez fY+(ez jK+1+2)=l.length)&&decide (s<l.length)&&Region.sinkB .any l.toArray s&&Region.chainB .any l.toArray s&&C8 .any l.toArray s fY (Array.replicate l.length false)&&NP .any l.toArray s i k (uh fY (Array.replicate l.length false))&&
  xT .any l.toArray s jK (((uh fY (Array.replicate l.length false)).setIfInBounds i true).setIfInBounds k true))=true)(hS:S w.drew)
 (h:lL P l S Q (λ a w=>LQ P l.toArray S Q (λ a w=>lL P l S Q (λ a w=>wpList P l.toArray (Exit.then (λ a w=>Q .normal a w) (gq Q)) [aW l s] a w) jK a w) i k a w) fY a w.drew):(Code.region id l.toArray true).wp P Q a w:=by
 simp only[aD,decide_eq_true_eq] at hB;obtain⟨⟨⟨⟨⟨⟨⟨h1,h2⟩,h3⟩,h4⟩,h5⟩,h6⟩,h7⟩,h8⟩:=hB;refine Code.wp_mono (Q:=gq Q) (λ e a w h=>?_) ?_
 · cases e with
   |normal=>exact h
   |_=>exact h.elim
 · refine wp_region_any hm (sG (S:=S) (s:=s) _ _ _ _ ?_)
   have GP:HeadInv .any l.toArray s (Array.replicate l.length false):=
    ⟨bY,λ j oj _ hl=>(by rw[getD_replicate_false] at hl;cases hl),λ t _ ht=>getD_in (by simpa using ht) (getD_replicate_false _ _)⟩
   have hp:=h7;unfold NP at hp;simp only[aD,decide_eq_true_eq] at hp;obtain⟨⟨⟨⟨⟨p1,p3⟩,r0⟩,r1⟩,r2⟩,e1⟩:=hp;have inv1:=zf fY _ h6 GP;have inv2:=inv1.set (i:=i) (by rw[r0];simp) p1;have aix:=inv2.set (i:=k) (by rw[r1];simp) p3
   have :=wo (P:=P) (md:=.any) (S:=S) (Q:=Q) (K:=λ a w=>LQ P l.toArray S Q (λ a w=>lL P l S Q (λ a w=>wpList P l.toArray (Exit.then (λ a w=>Q .normal a w) (gq Q)) [aW l s] a w) jK a w) i k a w) (fuel:=ez jK+1+2) h1 h4 h5 (by simpa using h3) fY (Array.replicate l.length false) a w.drew hS GP h6 (λ a' w' hS' hK=>by refine LR (by simpa using h3) h7 (λ a2 w2 FA hK2=>?_) hK;exact rJ (P:=P) (md:=.any) (S:=S) (Q:=Q) h1 h4 h5 (by simpa using h3) jK _ a2 w2 FA aix h8 (by simpa [lL] using hK2)) (by simpa [lL] using h)
   rw[h2] at this;simpa using this
theorem jM{P:Program}{l:List Oper}{S:agb->Prop}{Q:lC}{K:xD}{i:Nat}{a:Act}{w:agb}
 (h:∀K1:xD,(∀a w,S w->K a w->K1 a w)->wpList P l.toArray (Exit.then K1 (gq Q)) [aW l i] a w):vh P l.toArray S Q K i a w:=h (Nxt S K) (λ _ _ h1 h2=>⟨h1,h2⟩)
def Zl(P:Program)(l:List Oper)(S:agb->Prop)(Q:lC)(K:xD)(i:Nat)(pi:List (List Nat×List Nat))(k:Nat)(pk:List (List Nat×List Nat))(a:Act)(w:agb):Prop:=
 vh P l.toArray S Q (lL P l S Q K pi) i a w/\vh P l.toArray S Q (lL P l S Q K pk) k a w
theorem Ah{P:Program}{id:Nat}{Q:lC}{a:Act}{w:agb}{l:List Oper}(S:agb->Prop)(fY:List (List Nat×List Nat))(i:Nat)(pi:List (List Nat×List Nat))(k:Nat)(pk:List (List Nat×List Nat))(s:Nat)(hm:P.follows .mixedOrders=true)
 (hB:(Region.noSelect l.toArray&&decide (ez fY+(ez pi+1+1)=l.length)&&decide (ez pk=ez pi)&&decide (s<l.length)&&decide (i<s)&&decide (k<s)&&Region.sinkB .any l.toArray s&&Region.chainB .any l.toArray s&&C8 .any l.toArray s fY (Array.replicate l.length false)&&decide (Region.ready .any l.toArray (uh fY (Array.replicate l.length false))=[i,k])&&
  xT .any l.toArray s pi ((uh fY (Array.replicate l.length false)).setIfInBounds i true)&&xT .any l.toArray s pk ((uh fY (Array.replicate l.length false)).setIfInBounds k true))=true)(hS:S w.drew)
 (h:lL P l S Q (Zl P l S Q (λ a w=>wpList P l.toArray (Exit.then (λ a w=>Q .normal a w) (gq Q)) [aW l s] a w) i pi k pk) fY a w.drew):(Code.region id l.toArray true).wp P Q a w:=by
 simp only[aD,decide_eq_true_eq] at hB;obtain⟨⟨⟨⟨⟨⟨⟨⟨⟨⟨⟨h1,h2⟩,EH⟩,h3⟩,hi⟩,hk⟩,h4⟩,h5⟩,h6⟩,h7⟩,h8⟩,h9⟩:=hB;refine Code.wp_mono (Q:=gq Q) (λ e a w h=>?_) ?_
 · cases e with
   |normal=>exact h
   |_=>exact h.elim
 · refine wp_region_any hm (sG (S:=S) (s:=s) _ _ _ _ ?_)
   have GP:HeadInv .any l.toArray s (Array.replicate l.length false):=
    ⟨bY,λ j oj _ hl=>(by rw[getD_replicate_false] at hl;cases hl),λ t _ ht=>getD_in (by simpa using ht) (getD_replicate_false _ _)⟩
   have inv1:=zf fY _ h6 GP;have hn:s<l.toArray.size:=by simpa using h3
   have :=wo (P:=P) (md:=.any) (S:=S) (Q:=Q) (K:=Zl P l S Q (λ a w=>wpList P l.toArray (Exit.then (λ a w=>Q .normal a w) (gq Q)) [aW l s] a w) i pi k pk) (fuel:=ez pi+1+1) h1 h4 h5 hn fY (Array.replicate l.length false) a w.drew hS GP h6 (λ a' w' hS' hK=>by
    refine⟨λ h0=>(by rw[h7] at h0;cases h0),λ t ht=>?_⟩;rw[h7] at ht;simp only[aR,bH,or_false] at ht;rcases ht with rfl|rfl
    · exact wpOp_mono (λ a2 w2 h'=>⟨λ _=>h'.1,rJ (P:=P) (md:=.any) (S:=S) (Q:=Q) h1 h4 h5 hn pi _ a2 w2 h'.1 (inv1.set (by rw[h7];simp) hi) h8 (by simpa [lL] using h'.2)⟩) (kV (iZ ar) hK.1)
    · rw[<-EH]
      exact wpOp_mono (λ a2 w2 h'=>⟨λ _=>h'.1,rJ (P:=P) (md:=.any) (S:=S) (Q:=Q) h1 h4 h5 hn pk _ a2 w2 h'.1 (inv1.set (by rw[h7];simp) hk) h9 (by simpa [lL] using h'.2)⟩) (kV (iZ ar) hK.2)) (by simpa [lL] using h)
   rw[h2] at this;simpa using this
open Classical in
noncomputable def JD(b:Nat)(X u:agb):agb:=if u.heap[b]?=X.heap[b]? then u else X
section
variable{b:Nat}{X u w':agb}
theorem Ps:(JD b X u).heap[b]?=X.heap[b]?:=by
 unfold JD;split
 · assumption
 · rfl
theorem Pt(i:Nat):(JD b X u).cell? ⟨b,i,U⟩=X.cell? ⟨b,i,U⟩:=World.cell?_of_block (a:=⟨b,i,U⟩) Ps
theorem SB(h:w'.heap[b]?=X.heap[b]?):∃u,w'=JD b X u:=⟨w',by unfold JD;rw[if_pos h]⟩
theorem qA{C:Array R}{t:TypeId}(h:Bk X b C t)(h':Bk w' b C t):∃u,w'=JD b X u:=SB ((show w'.heap[b]?=_ from h').trans (show X.heap[b]?=_ from h).symm)
end
theorem xR{P:Program}{tmps:Array R}{a:Tmp}{p:Addr}(h:tmps.getD a undef=M (O p))(w:agb):(asAddr (tmps[a]?.getD undef)).run P w=.ok p w:=by
 have e:tmps[a]?.getD undef=M (O p):=by simpa using h
 rw[e];rfl
theorem gD{P:Program}{fn:Func}{a:Tmp}{t:TypeId}{tmps:Array R}{p:Addr}{v:R}{w:agb}(h:fn.results=#[.cell a t])(hb:tmps.getD a undef=M (O p))(hl:(loadVar t p).run P w=.ok v w):
 (results fn tmps).run P w=.ok v w:=by
 unfold results;rw[h];have e:(asAddr (tmps.getD a undef)).run P w=.ok p w:=by rw[hb];rfl
 have e':(asAddr (tmps[a]?.getD undef)).run P w=.ok p w:=by simpa using e
 simp[Sem.run_bind,e',hl]
theorem ES{P:Program}{fn:Func}{a1 a2 a3:Tmp}{t1 t2 t3:TypeId}{tmps:Array R}{p1 p2 p3:Addr}{v1 v2 v3:R}{w:agb}(h:fn.results=#[.cell a1 t1,.cell a2 t2,.cell a3 t3])
 (b1:tmps.getD a1 undef=M (O p1))(b2:tmps.getD a2 undef=M (O p2))(b3:tmps.getD a3 undef=M (O p3))
 (l1:(loadVar t1 p1).run P w=.ok v1 w)(l2:(loadVar t2 p2).run P w=.ok v2 w)(l3:(loadVar t3 p3).run P w=.ok v3 w):(results fn tmps).run P w=.ok (.tuple #[v1,v2,v3]) w:=by
 unfold results;rw[h];simp[Sem.run_bind,xR b1,xR b2,xR b3,l1,l2,l3]
theorem Jm{P:Program}{fn:Func}{a u:Tmp}{t:TypeId}{tmps:Array R}{p:Addr}{v:R}{w:agb}(h:fn.results=#[.cell a t,.tmp u])(hb:tmps.getD a undef=M (O p))(hl:(loadVar t p).run P w=.ok v w):
 (results fn tmps).run P w=.ok (.tuple #[v,tmps.getD u undef]) w:=by
 unfold results;rw[h];simp[Sem.run_bind,xR hb,hl]
theorem Bk.load{P:Program}{X:agb}{g:Nat}{C:Array R}{t ty:TypeId}{d:TypeDesc}(h:Bk X g C t)(hu:P.underlying ty=O d)(hd:(match d with | .struct _| .array _ _=>true|_=>false)=true)(hi:(P.info? ty).map (·.size)=O C.size):
 (loadVar ty ⟨g,0,U⟩).run P X=.ok (.agg C) X:=jl (cs:=C) (λ j u hj=>by rw[bX,h.cell];exact hj) hu hd hi
theorem Bk.R7{P:Program}{X:agb}{g:Nat}{C:Array R}{t ty:TypeId}{d:TypeDesc}{v:R}(h:Bk X g C t)(hu:P.underlying ty=O d)(hd:(match d with | .struct _| .array _ _=>true|_=>false)=false)(hv:C[0]?=O v):
 (loadVar ty ⟨g,0,U⟩).run P X=.ok v X:=by
 have hagg:(isAgg ty).run P X=.ok false X:=by unfold isAgg;rw[Sem.run_bind,run_underlying hu X];cases d<;>simp_all
 have hc:X.cell? ⟨g,0,U⟩=O v:=by rw[h.cell];exact hv
 unfold loadVar;rw[Sem.run_bind,hagg];simp[hc]
def xS(X:agb)(b:Nat):Nat->List R->agb
 |_,[]=>X
 |i,v::l=>xS (X.setCell ⟨b,i,U⟩ v) b (i+1) l
theorem iA{b:Nat}:∀(l:List R)(i:Nat)(X:agb),Only (λ g=>g=b) X (xS X b i l)
 |[],_,X=>Only.refl _ X
 |v::l,i,X=>((Only.refl (λ g=>g=b) X).aS (p:=⟨b,i,U⟩) (.inl rfl) v).trans (iA l (i+1) _)
theorem Jn{b:Nat}{t:TypeId}:∀(l:List R)(i:Nat)(X:agb)(Z:List R),Bk X b Z.toArray t->Z.length=i+l.length->Bk (xS X b i l) b (Z.take i++l).toArray t
 |[],i,X,Z,h,hz=>by
  have :Z.take i=Z:=cU (by simp at hz;omega);rw[this,dU];exact h
 |v::l,i,X,Z,h,hz=>by
  have h1:=Jn l (i+1) _ (Z.set i v) (by have :=h.aS i v;rw[dS] at this;exact this) (by simp at hz⊢;omega)
  have e:(Z.set i v).take (i+1)=Z.take i++[v]:=by rw[bu,List.take_set_of_le (ah _),iV];simp at hz;simp;omega
  rw[e,List.append_assoc] at h1;exact h1
theorem jF{X:agb}{b:Nat}{t:TypeId}{Z:Array R}(h:Bk X b Z t)(C:Array R)(hz:Z.size=C.size):Bk (xS X b 0 C.toList) b C t:=by have :=Jn (b:=b) (t:=t) C.toList 0 X Z.toList h (by simpa using hz);simpa using this
abbrev Rg:=Int×Int
abbrev Zn:=List Rg
abbrev Fc:=List Int
abbrev Rl:=Int×BA0×List Zn×Int×(Int×Int)×(Int×Int)
def r8(r:Rg)(n:Int):Bool:=decide (r.1<=n)&&decide (n<=r.2)
def atR(z:Zn)(i:Nat):Rg:=z.getD i (0,0)
def eO(f:Fc)(i:Nat):Int:=f.getD i 0
def rC(z:Zn)(f:Fc):Bool:=(List.range 10).all λ i=>r8 (atR z i) (eO f i)
def oh(r:Rl)(f:Fc):Bool:=r.2.2.1.any λ z=>rC z f
theorem Nz{z:Zn}{k:Nat}(h:k<z.length):z[k]?=O (atR z k):=by unfold atR;rw[av,af h];rfl
theorem NA{z:Fc}{k:Nat}(h:k<z.length):z[k]?=O (eO z k):=by unfold eO;rw[av,af h];rfl
theorem Wx{z:Zn}{f:Fc}{k:Nat}(hk:k<10)(h:r8 (atR z k) (eO f k)=false):rC z f=false:=by unfold rC;rw[List.all_eq_false];exact⟨k,bG.2 hk,by rw[h];decide⟩
theorem Wy{z:Zn}{f:Fc}(h:∀k,k<10->r8 (atR z k) (eO f k)=true):rC z f=true:=by unfold rC;exact cY.2 λ k hk=>h k (bG.1 hk)
abbrev tRg:Ty Rg:=fy dr dr
abbrev nM:Ty Zn:=Ww 10 tRg
abbrev tFc:Ty Fc:=Ww 10 dr
abbrev RJ:Ty (Int×Int):=fy dr dr
abbrev se:Ty Rl:=fy dr (fy OX (fy (eF nM) (fy dr (fy RJ RJ))))
theorem mG{w:agb}{B:Nat}{cs:List R}{z:Zn}(h:nM.rd w B cs z):cs=fL z/\z.length=10/\∀r∈z,fits r.1/\fits r.2:=by
 obtain⟨h1,h2,h3⟩:=h
 have Q7:∀i(hi:i<z.length),(cs.drop (i*2)).take 2=[I J z[i].1,I J z[i].2]/\fits z[i].1/\fits z[i].2:=λ i hi=>by obtain⟨c1,c2,e,⟨e1,f1⟩,⟨e2,f2⟩⟩:=h3 i hi;have e':(cs.drop (i*2)).take 2=c1++c2:=e;refine⟨?_,f1,f2⟩;rw[e',e1,e2];rfl
 refine⟨?_,h2,λ r hr=>?_⟩
 · apply List.ext_getElem?
   intro j;have hl:cs.length=20:=h1;by_cases hj:j<20
   · have hi:j / 2<z.length:=ar
     have e:=(Q7 (j / 2) hi).1;have hp:=pd (af hi)
     have g0:cs[j / 2*2]?=O (I J z[j / 2].1):=by have :=congrArg (λ l=>l[0]?) e;simpa [gP,ju] using this
     have g1:cs[j / 2*2+1]?=O (I J z[j / 2].2):=by have :=congrArg (λ l=>l[1]?) e;simpa [gP,ju] using this
     rcases(show j=j / 2*2\/j=j / 2*2+1 from ar) with e9|e9
     · rw[e9]
       have :j / 2*2 / 2=j / 2:=ar;rw[g0,hp.1]
     · rw[e9]
       rw[show(j / 2*2+1)=j / 2*2+1 from rfl,g1,hp.2]
   · rw[cX ar,cX (by rw[iy];omega)]
 · obtain⟨i,hi,rfl⟩:=bo.1 hr
   exact(Q7 i hi).2
theorem RL{w:agb}{B:Nat}{cs:List R}{f:Fc}(h:tFc.rd w B cs f):cs=oI f/\f.length=10/\∀x∈f,fits x:=by
 obtain⟨h1,h2,h3⟩:=h
 have Q7:∀i(hi:i<f.length),(cs.drop (i*1)).take 1=[I J f[i]]/\fits f[i]:=λ i hi=>by obtain⟨e,f1⟩:=h3 i hi;exact⟨e,f1⟩
 refine⟨?_,h2,λ r hr=>?_⟩
 · apply List.ext_getElem?
   intro j;have hl:cs.length=10:=h1;by_cases hj:j<10
   · have hi:j<f.length:=ar
     have e:=(Q7 j hi).1
     have g0:cs[j]?=O (I J f[j]):=by have :=congrArg (λ l=>l[0]?) e;simpa [gP,ju] using this
     rw[g0,Co (af hi)]
   · rw[cX ar,cX (by rw[pc];omega)]
 · obtain⟨i,hi,rfl⟩:=bo.1 hr
   exact(Q7 i hi).2
structure Nd where
 attr:Nat
 cJ:List Int
 kids:List Nat
 leaf:Nat
deriving DecidableEq
def gT:List Int->Int->Nat
 |[],_=>0
 |c::cs,v=>if v<c then 0 else gT cs v+1
theorem xI:∀(cs:List Int)(v:Int),gT cs v<=cs.length
 |[],_=>ah _
 |c::cs,v=>by
  unfold gT;split
  · omega
  · have :=xI cs v
    simp;omega
inductive tR(N:List Nd)(g:Fc):Nat->Nat->Nat->Prop
 |leaf {n:Nat} {nd:Nd} (h:N[n]?=O nd) (hk:nd.kids=[]):tR N g n nd.leaf 0
 |node {n k l s:Nat} {nd:Nd} (h:N[n]?=O nd) (hk:nd.kids[gT nd.cJ (eO g nd.attr)]?=O k) (r:tR N g k l s):tR N g n l (s+1)
theorem tR.more{N aai:List Nd}{g:Fc}{n l s:Nat}(h:tR N g n l s):tR (N++aai) g n l s:=by
 induction h with
 |leaf h hk=>exact .leaf (by rw[bM (ai.1 h).1];exact h) hk
 |node h hk r ih=>exact .node (by rw[bM (ai.1 h).1];exact h) hk ih
theorem tR.lt{N:List Nd}{g:Fc}{n l s:Nat}(h:tR N g n l s):n<N.length:=by
 cases h with
 |leaf h _=>exact(ai.1 h).1
 |node h _ _=>exact(ai.1 h).1
def Sem{δ:Type}(N:List Nd)(L:List δ)(n:Nat)(g:Fc)(d:δ):Prop:=∃l s,tR N g n l s/\L[l]?=O d
theorem Sem.more{δ:Type}{N aai:List Nd}{L K:List δ}{n:Nat}{g:Fc}{d:δ}(h:Sem N L n g d):Sem (N++aai) (L++K) n g d:=by obtain⟨l,s,h1,h2⟩:=h;exact⟨l,s,h1.more,by rw[bM (ai.1 h2).1];exact h2⟩
theorem Cr:∀{cs:List Int}{v:Int}{j:Nat},j<=cs.length->(∀i c,cs[i]?=O c->i<j->c<=v)->(∀c,cs[j]?=O c->v<c)->gT cs v=j
 |[],v,j,hj,_,_=>by simp at hj;subst hj;rfl
 |c::cs,v,0,_,_,h2=>by
  unfold gT;rw[if_pos (h2 c rfl)]
 |c::cs,v,j+1,hj,h1,h2=>by
  unfold gT;rw[if_neg (by have :=h1 0 c rfl ar;omega)];rw[Cr (j:=j) (by simpa using hj) (λ i d hd hi=>h1 (i+1) d hd ar) (λ d hd=>h2 d hd)]
def dK(Z:List Zn)(z:Nat):Zn:=Z.getD z []
def vU(Z:List Zn)(attr:Nat)(g:Fc)(z:Nat):Bool:=(List.range attr).all λ a=>r8 (atR (dK Z z) a) (eO g a)
def cu(Z:List Zn)(attr:Nat)(g:Fc):List Nat:=(List.range Z.length).filter (vU Z attr g)
theorem tS(Z:List Zn)(g:Fc):cu Z 0 g=List.range Z.length:=by unfold cu;rw[List.filter_eq_self];intro a _;rfl
theorem Ja(Z:List Zn)(attr:Nat)(g:Fc)(z:Nat):vU Z (attr+1) g z=(vU Z attr g z&&r8 (atR (dK Z z) attr) (eO g attr)):=by unfold vU;rw[fX,List.all_append];simp
theorem nV(Z:List Zn)(attr:Nat)(g:Fc):cu Z (attr+1) g=(cu Z attr g).filter λ z=>r8 (atR (dK Z z) attr) (eO g attr):=by
 unfold cu;rw[List.filter_filter];congr 1
 funext z
 rw[Ja,Bool.and_comm]
theorem sk{Z:List Zn}{attr:Nat}{f g:Fc}(h:∀a,a<attr->eO f a=eO g a):cu Z attr f=cu Z attr g:=by
 unfold cu vU;congr 1
 funext z
 rw[jc,cY,cY];exact⟨λ k a ha=>by rw[<-h a (bG.1 ha)];exact k a ha,λ k a ha=>by rw[h a (bG.1 ha)];exact k a ha⟩
theorem Fk(Z:List Zn)(g:Fc)(z:Nat):rC (dK Z z) g=vU Z 10 g z:=rfl
theorem O7{Z:List Zn}{f g:Fc}(h:cu Z 10 f=cu Z 10 g):∀z,z<Z.length->rC (dK Z z) f=rC (dK Z z) g:=λ z hz=>by
 rw[Fk,Fk,jc]
 have m:∀g,vU Z 10 g z=true↔z∈cu Z 10 g:=λ g=>by unfold cu;rw[dY,bG];exact⟨λ h=>⟨hz,h⟩,λ h=>h.2⟩
 rw[m,m,h]
def fI(Z:List Zn)(lo hi:Int)(attr:Nat)(live:List Nat):List Int:=
 lo::live.flatMap λ z=>[(atR (dK Z z) attr).1,(atR (dK Z z) attr).2+1].filter λ c=>decide (lo<c)&&decide (c<=hi)
theorem Cs{Z:List Zn}{lo hi:Int}{attr:Nat}{live:List Nat}{c v:Int}(h1:lo<=c)(hcv:c<=v)(hv:v<=hi)(hno:∀d∈fI Z lo hi attr live,¬(c<d/\d<=v)):
 ∀z∈live,r8 (atR (dK Z z) attr) c=r8 (atR (dK Z z) attr) v:=λ z hz=>by
 have lY:∀d,(d=(atR (dK Z z) attr).1\/d=(atR (dK Z z) attr).2+1)->lo<d->d<=hi->d∈fI Z lo hi attr live:=λ d hd h2 h3=>by unfold fI;rw[aR,dP];refine .inr ⟨z,hz,?_⟩;rw[dY];refine⟨by rcases hd with rfl|rfl<;>simp,by simp[h2,h3]⟩
 generalize atR (dK Z z) attr=r at *;unfold r8;have a1:=hno r.1;have a2:=hno (r.2+1);have b1:=lY r.1 (.inl rfl);have b2:=lY (r.2+1) (.inr rfl);rw[jc];simp only[aD,decide_eq_true_eq];constructor
 · rintro⟨k1,k2⟩
   refine⟨ar,?_⟩;rcases Int.lt_or_le r.2 v with h|h
   · exact absurd ⟨ar,ar⟩ (a2 (b2 ar ar))
   · exact h
 · rintro⟨k1,k2⟩
   refine⟨?_,ar⟩;rcases Int.lt_or_le c r.1 with h|h
   · exact absurd ⟨ar,ar⟩ (a1 (b1 ar ar))
   · exact h
theorem vV:∀(S:List Int)(v lo:Int),S.Pairwise (· < ·)->S.head?=O lo->lo<=v->∃(i:Nat) (c:Int),S[i]?=O c/\c<=v/\∀j d,S[j]?=O d->i<j->v<d
 |[],_,_,_,h,_=>by cases h
 |[c],v,lo,_,h,hv=>by
  cases h
  refine⟨0,c,rfl,hv,λ j d hd hj=>?_⟩;rcases j with _|j
  · omega
  · simp at hd
 |c::d::S,v,lo,hp,h,hv=>by
  cases h
  rcases Int.lt_or_le v d with hd|hd
  · refine⟨0,c,rfl,hv,λ j e he hj=>?_⟩
    rcases j with _|j
    · omega
    · have hm:e∈d::S:=az (by simpa using he)
      rcases aR.1 hm with rfl|hm
      · exact hd
      · have :=List.rel_of_pairwise_cons (j8.1 hp).2 hm
        omega
  · obtain⟨i,x,h1,h2,h3⟩:=vV (d::S) v d (j8.1 hp).2 rfl hd
    exact⟨i+1,x,h1,h2,λ j e he hj=>by
     rcases j with _|j
     · omega
     · exact h3 j e (by simpa using he) ar⟩
section
variable{δ:Type}(Z:List Zn)(lim:Zn)(eE:Fc->δ)
def ik(g:Fc):Prop:=∀a,a<10->(atR lim a).1<=eO g a/\eO g a<=(atR lim a).2
def Made(N:List Nd)(L:List δ)(live:List Nat)(attr n:Nat):Prop:=
 n<N.length/\(∀nd,N[n]?=O nd->nd.kids≠ []->attr<=nd.attr)/\∀g,ik lim g->cu Z attr g=live->Sem N L n g (eE g)
variable{Z lim eE}
theorem Made.more{N aai:List Nd}{L K:List δ}{live:List Nat}{attr n:Nat}(h:Made Z lim eE N L live attr n):Made Z lim eE (N++aai) (L++K) live attr n:=
 ⟨by rw[ax];have :=h.1;omega,λ nd hn hk=>h.2.1 nd (by rw[bM h.1] at hn;exact hn) hk,λ g hg hl=>(h.2.2 g hg hl).more⟩
theorem Ct:∀{cs:List Int}{s v:Int},s<=v->(∀c∈cs,c<=v->c<=s)->gT cs v=gT cs s
 |[],_,_,_,_=>rfl
 |c::cs,s,v,hs,h=>by
  unfold gT;have hc:=h c (dA ..);by_cases hv:v<c
  · rw[if_pos hv,if_pos ar]
  · rw[if_neg hv,if_neg (by have :=hc ar;omega),Ct hs (λ d hd=>h d (di _ hd))]
theorem rD:∀{cs:List Int}{v:Int},(∀c∈cs,c<=v)->gT cs v=cs.length
 |[],_,_=>rfl
 |c::cs,v,h=>by
  unfold gT;rw[if_neg (by have :=h c (dA ..);omega),rD (λ d hd=>h d (di _ hd))];rfl
theorem xJ:∀{cs:List Int}{s v:Int},v<s->gT (cs++[s]) v=gT cs v
 |[],s,v,h=>by
  show gT [s] v=0;unfold gT;rw[if_pos h]
 |c::cs,s,v,h=>by
  show gT (c::(cs++[s])) v=gT (c::cs) v;unfold gT;split
  · rfl
  · rw[xJ h]
structure iR(Z:List Zn)(lim:Zn)(eE:Fc->δ)(N:List Nd)(L:List δ)(S:List Int)(live:List Nat)(attr i:Nat)(cJ:List Int)(kids:List Nat):Prop where
 zero:i=0->cJ=[]/\kids=[]
 len:0<i->kids.length=cJ.length+1
 sorted:cJ.Pairwise (· < ·)
 from_:∀c∈cJ,∃j,0<j/\j<i/\S[j]?=O c
 apart:∀j k k',kids[j]?=O k->kids[j+1]?=O k'->k≠k'
 made:∀j s,j<i->S[j]?=O s->∃k,kids[gT cJ s]?=O k/\Made Z lim eE N L (live.filter λ z=>r8 (atR (dK Z z) attr) s) (attr+1) k
 all:∀k∈kids,∃l,Made Z lim eE N L l (attr+1) k
theorem iR.start(N:List Nd)(L:List δ)(S:List Int)(live:List Nat)(attr:Nat):iR Z lim eE N L S live attr 0 [] []:=
 ⟨λ _=>⟨rfl,rfl⟩,λ h=>absurd h ar,List.Pairwise.nil,λ _ h=>absurd h bY,λ _ _ _ h=>absurd h bY,λ _ _ h=>absurd h ar,λ _ h=>absurd h bY⟩
theorem iR.more{N aai:List Nd}{L K:List δ}{S:List Int}{live:List Nat}{attr i:Nat}{cJ:List Int}{kids:List Nat}(h:iR Z lim eE N L S live attr i cJ kids):iR Z lim eE (N++aai) (L++K) S live attr i cJ kids:=
 ⟨h.zero,h.len,h.sorted,h.from_,h.apart,λ j s hj hs=>by obtain⟨k,h1,h2⟩:=h.made j s hj hs;exact⟨k,h1,h2.more⟩,λ k hk=>by obtain⟨l,hl⟩:=h.all k hk;exact⟨l,hl.more⟩⟩
variable{N:List Nd}{L:List δ}{S:List Int}{live:List Nat}{attr i:Nat}{cJ:List Int}{kids:List Nat}
theorem iR.below(h:iR Z lim eE N L S live attr i cJ kids)(hS:S.Pairwise (· < ·)){s:Int}(hs:S[i]?=O s):∀c∈cJ,c<s:=λ c hc=>by
 obtain⟨j,_,hj,e⟩:=h.from_ c hc
 exact eG.1 hS j i (ai.1 e).1 (ai.1 hs).1 hj |> λ q=>by rw[(ai.1 e).2,(ai.1 hs).2] at q;exact q
theorem iR.first(h:iR Z lim eE N L S live attr 0 cJ kids){s:Int}{k:Nat}(hs:S[0]?=O s)(hk:Made Z lim eE N L (live.filter λ z=>r8 (atR (dK Z z) attr) s) (attr+1) k):
 iR Z lim eE N L S live attr 1 cJ (kids++[k]):=by
 obtain⟨rfl,rfl⟩:=h.zero rfl;refine⟨λ h=>absurd h ar,λ _=>rfl,List.Pairwise.nil,λ _ h=>absurd h bY,λ j k k' h1 h2=>absurd h2 bY,λ j t hj ht=>?_,λ q hq=>?_⟩
 · obtain rfl:j=0:=ar
   obtain rfl:=aO (hs.symm.trans ht);exact⟨k,rfl,hk⟩
 · obtain rfl:=by simpa using hq
   exact⟨_,hk⟩
theorem iR.same(h:iR Z lim eE N L S live attr i cJ kids)(hi:0<i)(hS:S.Pairwise (· < ·)){s:Int}{k:Nat}(hs:S[i]?=O s)(hl:kids[kids.length - 1]?=O k)(hk:Made Z lim eE N L (live.filter λ z=>r8 (atR (dK Z z) attr) s) (attr+1) k):
 iR Z lim eE N L S live attr (i+1) cJ kids:=by
 refine⟨λ h=>absurd h ar,λ _=>h.len hi,h.sorted,λ c hc=>?_,h.apart,λ j t hj ht=>?_,h.all⟩
 · obtain⟨j,h1,h2,h3⟩:=h.from_ c hc
   exact⟨j,h1,ar,h3⟩
 · by_cases AV:j<i
   · exact h.made j t AV ht
   · obtain rfl:j=i:=ar
     obtain rfl:=aO (hs.symm.trans ht);refine⟨k,?_,hk⟩;rw[rD (λ c hc=>by have :=h.below hS hs c hc;omega)];have :=h.len hi;rw[show cJ.length=kids.length - 1 from ar];exact hl
theorem iR.next(h:iR Z lim eE N L S live attr i cJ kids)(hi:0<i)(hS:S.Pairwise (· < ·)){s:Int}{k k0:Nat}(hs:S[i]?=O s)(hl:kids[kids.length - 1]?=O k0)(hne:k0≠k)(hk:Made Z lim eE N L (live.filter λ z=>r8 (atR (dK Z z) attr) s) (attr+1) k):
 iR Z lim eE N L S live attr (i+1) (cJ++[s]) (kids++[k]):=by
 have hb:=h.below hS hs;have hlen:=h.len hi;refine⟨λ h=>absurd h ar,λ _=>by rw[ax,ax,hlen];rfl,?_,λ c hc=>?_,λ j a b h1 h2=>?_,λ j t hj ht=>?_,λ q hq=>?_⟩
 · rw[List.pairwise_append]
   exact⟨h.sorted,List.pairwise_singleton _ _,λ a ha b hb'=>by rw[aN.1 hb'];exact hb a ha⟩
 · rcases bV.1 hc with hc|hc
   · obtain⟨j,h1,h2,h3⟩:=h.from_ c hc
     exact⟨j,h1,ar,h3⟩
   · rw[aN.1 hc]
     exact⟨i,hi,ar,hs⟩
 · have hj:j+1<(kids++[k]).length:=(ai.1 h2).1
   rw[ax,jk] at hj;rw[bM ar] at h1;by_cases rE:j+1<kids.length
   · rw[bM rE] at h2
     exact h.apart j a b h1 h2
   · have e:j=kids.length - 1:=ar
     subst e;rw[bP ar,show kids.length - 1+1 - kids.length=0 from ar] at h2;have EH:k=b:=by simpa using h2
     rw[hl] at h1;rw[<-EH,<-aO h1];exact hne
 · by_cases AV:j<i
   · obtain⟨q,h1,h2⟩:=h.made j t AV ht
     have VY:t<s:=by have :=eG.1 hS j i (ai.1 ht).1 (ai.1 hs).1 AV;rw[(ai.1 ht).2,(ai.1 hs).2] at this;exact this
     refine⟨q,?_,h2⟩;rw[xJ VY,bM (ai.1 h1).1];exact h1
   · obtain rfl:j=i:=ar
     obtain rfl:=aO (hs.symm.trans ht);refine⟨k,?_,hk⟩
     rw[rD (λ c hc=>by
      rcases bV.1 hc with hc|hc
      · have :=hb c hc;omega
      · rw[aN.1 hc];omega),ax,jk,bP ar,show cJ.length+1 - kids.length=0 from ar]
     rfl
 · rcases bV.1 hq with hq|hq
   · exact h.all q hq
   · rw[aN.1 hq]
     exact⟨_,hk⟩
theorem iR.leads(h:iR Z lim eE N L S live attr S.length cJ kids)(hS:S.Pairwise (· < ·))(h0:S.head?=O (atR lim attr).1)(kK:∀d,d∈S↔d∈fI Z (atR lim attr).1 (atR lim attr).2 attr live)(ha:attr<10)
 {g:Fc}(hg:ik lim g)(hl:cu Z attr g=live):∃k,kids[gT cJ (eO g attr)]?=O k/\Sem N L k g (eE g):=by
 obtain⟨v1,v2⟩:=hg attr ha;obtain⟨j,s,e1,e2,e3⟩:=vV S (eO g attr) _ hS h0 v1;obtain⟨k,q1,q2⟩:=h.made j s (ai.1 e1).1 e1
 have hle:∀c∈S,c<=eO g attr->c<=s:=λ c hc hcv=>by
  obtain⟨m,hm,rfl⟩:=bo.1 hc;rcases eC j m with hjm|hjm
  · have :=e3 m _ (af hm) hjm
    omega
  · obtain⟨hj,rfl⟩:=ai.1 e1
    rcases Nat.eq_or_lt_of_le hjm with rfl|hlt
    · exact Int.le_refl _
    · have :=eG.1 hS m j hm hj hlt
      omega
 refine⟨k,?_,?_⟩
 · rw[Ct e2 (λ c hc hcv=>by
    obtain⟨m,_,hm,e⟩:=h.from_ c hc;exact hle c (az e) hcv)]
   exact q1
 · refine q2.2.2 g hg ?_
   rw[nV,hl];refine List.filter_congr (λ z hz=>?_)
   have hs0:(atR lim attr).1<=s:=by
    have hm:(atR lim attr).1∈S:=by
     cases S with
     |nil=>cases h0
     |cons a S=>cases h0;exact dA ..
    exact hle _ hm v1
   exact(Cs hs0 e2 v2 (λ d hd ⟨k1,k2⟩=>by have :=hle d ((kK d).2 hd) k2;omega) z hz).symm
theorem iR.one(h:iR Z lim eE N L S live attr S.length cJ kids)(hS:S.Pairwise (· < ·))(h0:S.head?=O (atR lim attr).1)(kK:∀d,d∈S↔d∈fI Z (atR lim attr).1 (atR lim attr).2 attr live)(ha:attr<10)
 {k:Nat}(hk:kids=[k]):Made Z lim eE N L live attr k:=by
 obtain⟨l,hl⟩:=h.all k (by rw[hk];simp);refine⟨hl.1,λ nd hn hne=>by have :=hl.2.1 nd hn hne;omega,λ g hg hlv=>?_⟩;obtain⟨q,h1,h2⟩:=h.leads hS h0 kK ha hg hlv;have hlt:=(ai.1 h1).1;rw[hk] at h1 hlt;have e0:gT cJ (eO g attr)=0:=by simpa using hlt
 rw[e0] at h1;cases h1
 exact h2
theorem iR.node(h:iR Z lim eE N L S live attr S.length cJ kids)(hS:S.Pairwise (· < ·))(h0:S.head?=O (atR lim attr).1)(kK:∀d,d∈S↔d∈fI Z (atR lim attr).1 (atR lim attr).2 attr live)(ha:attr<10)
 {n:Nat}{nd:Nd}(hn:N[n]?=O nd)(e1:nd.attr=attr)(e2:nd.cJ=cJ)(e3:nd.kids=kids):Made Z lim eE N L live attr n:=by
 refine⟨(ai.1 hn).1,λ x hx _=>by rw[hn] at hx;cases hx;omega,λ g hg hlv=>?_⟩;obtain⟨q,h1,l,s,h2,h3⟩:=h.leads hS h0 kK ha hg hlv;exact⟨l,s+1,.node hn (by rw[e1,e2,e3];exact h1) h2,h3⟩
end
def NB:Nd:=⟨0,[],[],0⟩
def eR(N:List Nd)(n:Nat):List Nat:=(N.getD n NB).kids
def mX(N:List Nd):Nat->List Nat->Nat->List Nat
 |0,eP,_=>eP
 |k+1,eP,n=>if n∈eP then eP else(eR N n).foldl (mX N k) (eP++[n])
theorem tT{α β:Type}{f:List α->β->List α}(hf:∀v b,v<+:f v b):∀(l:List β)(v:List α),v<+:l.foldl f v
 |[],v=>List.prefix_refl _
 |b::l,v=>(hf v b).trans (tT hf l (f v b))
theorem uL(N:List Nd):∀(k:Nat)(eP:List Nat)(n:Nat),eP<+:mX N k eP n
 |0,eP,n=>List.prefix_refl _
 |k+1,eP,n=>by
  unfold mX;split
  · exact List.prefix_refl _
  · exact(List.prefix_append eP [n]).trans (tT (uL N k) _ _)
theorem Cu{α β:Type}{f:List α->β->List α}(hf:∀v b,v<+:f v b){l:List β}{v:List α}{x:α}(h:x∈v):x∈l.foldl f v:=(tT hf l v).subset h
theorem yQ(N:List Nd):∀(k:Nat)(eP:List Nat)(n:Nat),eP.Nodup->(mX N k eP n).Nodup
 |0,eP,n,h=>h
 |k+1,eP,n,h=>by
  unfold mX;split
  · exact h
  · rename_i hn
    have h1:(eP++[n]).Nodup:=by rw[kL];exact⟨h,bY,λ a ha b hb e=>hn (by rw[aN.1 hb] at e;rw[<-e];exact ha)⟩
    generalize eR N n=l;generalize eP++[n]=v at h1;induction l generalizing v with
    |nil=>exact h1
    |cons c l ih=>exact ih _ (yQ N k v c h1)
def sr(N:List Nd)(r:Nat->Nat):Prop:=∀n,∀c∈eR N n,r c<r n
theorem BV(N:List Nd){k:Nat}(hk:0<k)(eP:List Nat)(n:Nat):n∈mX N k eP n:=by
 obtain⟨k,rfl⟩:∃m,k=m+1:=⟨k - 1,ar⟩;unfold mX;split
 · assumption
 · exact Cu (uL N k) bY
theorem Jb(N:List Nd){k:Nat}(hk:0<k):∀(l:List Nat)(v:List Nat),∀c∈l,c∈l.foldl (mX N k) v
 |[],_,_,h=>absurd h bY
 |b::l,v,c,h=>by
  rcases aR.1 h with rfl|h
  · exact(show _∈l.foldl (mX N k) (mX N k v _) from Cu (uL N k) (BV N hk v _))
  · exact Jb N hk l _ c h
theorem vW{N:List Nd}{r:Nat->Nat}(hr:sr N r):∀(k:Nat)(eP:List Nat)(n:Nat),r n<k->∀m∈mX N k eP n,m∈eP\/∀c∈eR N m,c∈mX N k eP n
 |0,eP,n,h,_,_=>absurd h ar
 |k+1,eP,n,h,m,hm=>by
  by_cases hn:n∈eP
  · left
    unfold mX at hm;rw[if_pos hn] at hm;exact hm
  · have e:mX N (k+1) eP n=(eR N n).foldl (mX N k) (eP++[n]):=by
     show(if n∈eP then eP else _)=_;rw[if_neg hn]
    rw[e] at hm⊢;have hlt:∀c∈eR N n,r c<k:=λ c hc=>by have :=hr n c hc;omega
    have key:∀(l:List Nat)(v:List Nat),(∀c∈l,r c<k)->∀x∈l.foldl (mX N k) v,x∈v\/∀c∈eR N x,c∈l.foldl (mX N k) v:=by
     intro l;induction l with
     |nil=>exact λ v _ x hx=>.inl hx
     |cons b l ih=>
      intro v hl x hx;rcases ih (mX N k v b) (λ c hc=>hl c (di _ hc)) x hx with h1|h1
      · rcases vW hr k v b (hl b (dA ..)) x h1 with h2|h2
        · exact .inl h2
        · exact .inr λ c hc=>(show c∈l.foldl (mX N k) (mX N k v b) from Cu (uL N k) (h2 c hc))
      · exact .inr h1
    rcases key _ _ hlt m hm with h1|h1
    · rcases bV.1 h1 with h1|h1
      · exact .inl h1
      · rw[aN.1 h1]
        rcases gO k with rfl|hk
        · refine .inr λ c hc=>?_
          have :=hlt c hc;omega
        · exact .inr λ c hc=>Jb N hk _ _ c hc
    · exact .inr h1
theorem NC{N T:List Nd}{ρ:Nat->Nat}{aap:Nat->Prop}(AY:∀a b,aap a->aap b->ρ a=ρ b->a=b)(mW:∀n,aap n->∀c∈eR N n,aap c)(hk:∀n,aap n->eR T (ρ n)=(eR N n).map ρ):
 ∀(k:Nat)(eP:List Nat)(n:Nat),aap n->(∀m∈eP,aap m)->(mX N k eP n).map ρ=mX T k (eP.map ρ) (ρ n)/\∀m∈mX N k eP n,aap m
 |0,eP,n,_,hv=>⟨rfl,hv⟩
 |k+1,eP,n,hn,hv=>by
  have kK:ρ n∈eP.map ρ↔n∈eP:=⟨λ h=>by obtain⟨m,h1,h2⟩:=eQ.1 h;rw[<-AY m n (hv m h1) hn h2];exact h1,λ h=>List.mem_map_of_mem h⟩
  unfold mX;by_cases h:n∈eP
  · rw[if_pos h,if_pos (kK.2 h)]
    exact⟨rfl,hv⟩
  · rw[if_neg h,if_neg (λ e=>h (kK.1 e)),hk n hn]
    have hv2:∀m∈eP++[n],aap m:=λ m hm=>by
     rcases bV.1 hm with hm|hm
     · exact hv m hm
     · rw[aN.1 hm];exact hn
    have hl:=mW n hn;rw[show eP.map ρ++[ρ n]=(eP++[n]).map ρ from bY];generalize eR N n=l at hl;generalize eP++[n]=v at hv2;induction l generalizing v with
    |nil=>exact⟨rfl,hv2⟩
    |cons c l ih=>
     obtain⟨q1,q2⟩:=NC AY mW hk k v c (hl c (dA ..)) hv2;rw[List.foldl_cons,aH,List.foldl_cons,<-q1];exact ih (λ d hd=>hl d (di _ hd)) _ q2
def qU(N:List Nd)(n:Nat):Bool:=(eR N n).isEmpty
def zY(N:List Nd)(order:List Nat)(j:Nat):Nd:=
 ⟨(N.getD (order.getD j 0) NB).attr,(N.getD (order.getD j 0) NB).cJ,(eR N (order.getD j 0)).map λ c=>order.idxOf c,
   if qU N (order.getD j 0) then((order.take j).filter (qU N)).length else(N.getD (order.getD j 0) NB).leaf⟩
def om(N:List Nd)(order:List Nat):List Nd:=(List.range order.length).map (zY N order)
def kf{δ:Type}(N:List Nd)(L:List δ)(d0:δ)(order:List Nat):List δ:=(order.filter (qU N)).map λ n=>L.getD (N.getD n NB).leaf d0
theorem jO(N:List Nd)(order:List Nat):(om N order).length=order.length:=by simp[om]
theorem su{N:List Nd}{order:List Nat}{j:Nat}(h:j<order.length):(om N order)[j]?=O (zY N order j):=by unfold om;rw[bQ,List.getElem?_range h];rfl
theorem pg{α:Type}{l:List α}(h:l.Nodup){i j:Nat}(hi:i<l.length)(hj:j<l.length)(e:l[i]=l[j]):i=j:=by
 rcases Nat.lt_trichotomy i j with hlt|rfl|hlt
 · exact absurd e (eG.1 h i j hi hj hlt)
 · rfl
 · exact absurd e.symm (eG.1 h j i hj hi hlt)
theorem ND{order:List Nat}(hn:order.Nodup){j:Nat}(hj:j<order.length):order.idxOf order[j]=j:=
 pg hn (cW (cD hj)) hj (fP (cW (cD hj)))
theorem RM{order:List Nat}(hn:order.Nodup){j n:Nat}(h:order[j]?=O n):order.idxOf n=j:=by obtain⟨hj,rfl⟩:=ai.1 h;exact ND hn hj
theorem adT{N:List Nd}{order:List Nat}{j n:Nat}(h:order[j]?=O n):eR (om N order) j=(eR N n).map λ c=>order.idxOf c:=by
 have hj:=(ai.1 h).1;have e:order.getD j 0=n:=by rw[av,h];rfl
 unfold eR;rw[av,su hj];show(zY N order j).kids=_;unfold zY eR;rw[e]
theorem O8{N:List Nd}{r:Nat->Nat}(hr:sr N r){root k:Nat}(hk:r root<k)(order:List Nat)(ho:order=mX N k [] root):mX (om N order) k [] 0=List.range order.length:=by
 have nJ:order.Nodup:=by rw[ho];exact yQ N k [] root List.nodup_nil
 have mW:∀n,n∈order->∀c∈eR N n,c∈order:=λ n hn=>by
  rw[ho] at hn;rcases vW hr k [] root hk n hn with h|h
  · exact absurd h bY
  · rw[ho];exact h
 have AY:∀a b,a∈order->b∈order->order.idxOf a=order.idxOf b->a=b:=λ a b ha hb e=>by have h1:=fP (cW ha);have h2:=fP (cW hb);rw[<-h1,<-h2];congr 1
 have tU:root∈order:=by rw[ho];exact BV N ar [] root
 have Wz:∀n,n∈order->eR (om N order) (order.idxOf n)=(eR N n).map λ c=>order.idxOf c:=λ n hn=>adT (by rw[af (cW hn)];exact congrArg O (fP (cW hn)))
 have hm:=(NC (N:=N) (T:=om N order) (ρ:=λ c=>order.idxOf c) (aap:=λ n=>n∈order) AY mW Wz k [] root tU (λ m h=>absurd h bY)).1;rw[<-ho] at hm
 have h0:order.idxOf root=0:=by refine RM nJ ?_;rw[ho];obtain⟨k,rfl⟩:∃m,k=m+1:=⟨k - 1,ar⟩;unfold mX;rw[if_neg bY];obtain⟨t,ht⟩:=tT (uL N k) (eR N root) ([]++[root]);rw[<-ht];rfl
 rw[show List.map (λ c=>order.idxOf c) ([]:List Nat)=[] from rfl,h0] at hm;rw[<-hm];refine List.ext_getElem bY (λ i h1 h2=>?_);rw[jT,List.getElem_range];exact ND nJ _
section
variable(lim:Zn)
def tV(N:List Nd)(bound leaves:Nat)(nd:Nd):Prop:=
 (nd.kids=[]/\nd.attr=0/\nd.cJ=[]/\nd.leaf<leaves)\/
 (nd.attr<10/\nd.leaf=0/\nd.cJ≠ []/\nd.kids.length=nd.cJ.length+1/\nd.cJ.Pairwise (· < ·)/\(∀c∈nd.cJ,(atR lim nd.attr).1<c/\c<=(atR lim nd.attr).2)/\
  (∀j k k',nd.kids[j]?=O k->nd.kids[j+1]?=O k'->k≠k')/\∀k∈nd.kids,k<bound/\∀nk,N[k]?=O nk->nk.kids≠ []->nd.attr<nk.attr)
structure BW{δ:Type}(N:List Nd)(L:List δ):Prop where
 form:∀i nd,N[i]?=O nd->tV lim N i L.length nd
 nodes:N.Nodup
 leaves:L.Nodup
variable{lim}{δ:Type}{N:List Nd}{L:List δ}
def tj(N:List Nd)(n:Nat):Nat:=if(eR N n).isEmpty then 0 else 10 - (N.getD n NB).attr
theorem rF{N:List Nd}{n c:Nat}(hc:c∈eR N n):∃nd,N[n]?=O nd/\nd.kids=eR N n/\N.getD n NB=nd:=by
 unfold eR at hc⊢;rw[av] at hc⊢;rcases h:N[n]? with _|nd
 · rw[h] at hc
   exact absurd hc (by simp[NB])
 · exact⟨nd,rfl,rfl,rfl⟩
theorem ji{N:List Nd}{n:Nat}{nd:Nd}(h:N[n]?=O nd):N.getD n NB=nd:=by rw[av,h];rfl
theorem Fl{N:List Nd}(h:∀(i:Nat)(nd:Nd),N[i]?=O nd->∃b l,tV lim N b l nd):sr N (tj N):=λ n c hc=>by
 obtain⟨nd,h1,h2,h3⟩:=rF hc;obtain⟨b,l,hf⟩:=h n nd h1;rcases hf with⟨hk,_⟩|⟨ha,_,_,_,_,_,_,hk⟩
 · rw[<-h2,hk] at hc
   exact absurd hc bY
 · have hne:(eR N n).isEmpty=false:=by
    cases zX:eR N n with
    |nil=>rw[zX] at hc;exact absurd hc bY
    |cons _ _=>rfl
   unfold tj;rw[hne,h3];by_cases hce:(eR N c).isEmpty
   · rw[if_pos hce]
     simp;omega
   · rw[if_neg hce]
     have hcn:∃x,x∈eR N c:=by
      cases RN:eR N c with
      |nil=>rw[RN] at hce;exact absurd rfl hce
      |cons x _=>exact⟨x,bY⟩
     obtain⟨x,hx⟩:=hcn;obtain⟨ndc,k1,k2,k3⟩:=rF hx;have :=(hk c (by rw[h2];exact hc)).2 ndc k1 (by rw[k2];intro e;rw[e] at hx;exact absurd hx bY);rw[k3];simp;have hb:=h c ndc k1;obtain⟨b',l',hf'⟩:=hb;rcases hf' with⟨qq,_⟩|⟨ha',_⟩
     · rw[<-k2,qq] at hx;exact absurd hx bY
     · omega
theorem xK(N:List Nd)(n:Nat):tj N n<12:=by unfold tj;split<;>omega
theorem BW.Ls(h:BW lim N L):sr N (tj N):=Fl λ i nd hi=>⟨_,_,h.form i nd hi⟩
def jm(N:List Nd)(root:Nat):List Nat:=mX N 12 [] root
theorem lZ(N:List Nd)(root:Nat):(jm N root).Nodup:=yQ N 12 [] root List.nodup_nil
theorem oP(h:BW lim N L)(root:Nat):∀n∈jm N root,∀c∈eR N n,c∈jm N root:=λ n hn=>by
 rcases vW h.Ls 12 [] root (xK N root) n hn with q|q
 · exact absurd q bY
 · exact q
theorem tW(h:BW lim N L){root:Nat}(hr:root<N.length):∀n∈jm N root,n<N.length:=by
 have hk:∀n c,n<N.length->c∈eR N n->c<N.length:=λ n c hn hc=>by
  obtain⟨nd,h1,h2,_⟩:=rF hc;rcases h.form n nd h1 with⟨hk,_⟩|⟨_,_,_,_,_,_,_,hk⟩
  · rw[<-h2,hk] at hc;exact absurd hc bY
  · have :=(hk c (by rw[h2];exact hc)).1;omega
 have key:∀(k:Nat)(eP:List Nat)(n:Nat),n<N.length->(∀m∈eP,m<N.length)->∀m∈mX N k eP n,m<N.length:=by
  intro k;induction k with
  |zero=>exact λ eP n _ hv=>hv
  |succ k ih=>
   intro eP n hn hv;unfold mX;split
   · exact hv
   · have hl:∀c∈eR N n,c<N.length:=λ c hc=>hk n c hn hc
     have hv2:∀m∈eP++[n],m<N.length:=λ m hm=>by
      rcases bV.1 hm with hm|hm
      · exact hv m hm
      · rw[aN.1 hm];exact hn
     generalize eR N n=l at hl;generalize eP++[n]=v at hv2;induction l generalizing v with
     |nil=>exact hv2
     |cons c l ih2=>exact ih2 (λ d hd=>hl d (di _ hd)) _ (ih v c (hl c (dA ..)) hv2)
 exact key 12 [] root hr (λ m h=>absurd h bY)
theorem pj:∀(n:Nat)(l:List Nat),l.Nodup->(∀x∈l,x<n)->l.length<=n
 |0,l,_,hl=>by
  cases l with
  |nil=>simp
  |cons x l=>have :=hl x (dA ..);omega
 |n+1,l,h,hl=>by
  by_cases hn:n∈l
  · have h1:=pj n (l.erase n) (h.erase n) (λ x hx=>by
     have hx2:=(h.mem_erase_iff).1 hx;have :=hl x hx2.2;omega)
    rw[List.length_erase_of_mem hn] at h1;omega
  · have :=pj n l h (λ x hx=>by
     have :=hl x hx;rcases Nat.eq_or_lt_of_le (Nat.le_of_lt_succ this) with rfl|q
     · exact absurd hx hn
     · exact q)
    omega
theorem tX{p:Nat->Bool}{l:List Nat}{j n:Nat}(h:l[j]?=O n)(hp:p n=true):((l.take j).filter p).length<(l.filter p).length:=by
 have hj:=(ai.1 h).1
 have e:l=l.take j++n::l.drop (j+1):=by rw[<-(ai.1 h).2,List.getElem_cons_drop hj,ia]
 rw[show(l.filter p).length=((l.take j++n::l.drop (j+1)).filter p).length from by rw[<-e],gQ,ax,jU,if_pos hp,bD];omega
theorem lR(h:BW lim N L){n:Nat}{nd:Nd}(hn:N[n]?=O nd):qU N n=true↔nd.kids=[]:=by unfold qU eR;rw[ji hn,List.isEmpty_iff]
variable{root:Nat}{order:List Nat}
theorem Lt(h:BW lim N L)(hr:root<N.length)(ho:order=jm N root){j:Nat}(hj:j<order.length):tV lim (om N order) order.length (order.filter (qU N)).length (zY N order j):=by
 have nJ:order.Nodup:=by rw[ho];exact lZ N root
 have hlt:∀n∈order,n<N.length:=by rw[ho];exact tW h hr
 have mW:∀n∈order,∀c∈eR N n,c∈order:=by rw[ho];exact oP h root
 have hm:=cD hj;obtain⟨n,hn⟩:∃n,order[j]?=O n:=⟨_,af hj⟩;have hno:n∈order:=az hn;have e0:order.getD j 0=n:=by rw[av,hn];rfl
 obtain⟨nd,hN⟩:∃nd,N[n]?=O nd:=⟨_,af (hlt n hno)⟩;have e1:=ji hN;have ek:eR N n=nd.kids:=by unfold eR;rw[e1]
 have lY:∀a b,a∈order->b∈order->order.idxOf a=order.idxOf b->a=b:=λ a b ha hb e=>by have h1:=fP (cW ha);have h2:=fP (cW hb);rw[<-h1,<-h2];congr 1
 have eT:zY N order j=⟨nd.attr,nd.cJ,nd.kids.map λ c=>order.idxOf c,if qU N n then((order.take j).filter (qU N)).length else nd.leaf⟩:=by unfold zY;rw[e0,e1,ek]
 rw[eT];rcases h.form n nd hN with⟨k1,k2,k3,k4⟩|⟨k1,k2,k3,k4,k5,k6,k7,k8⟩
 · left
   have vw:qU N n=true:=(lR h hN).2 k1;refine⟨by show nd.kids.map _=[];rw[k1];rfl,k2,k3,?_⟩;show(if qU N n then _ else _)<_;rw[if_pos vw];exact tX hn vw
 · right
   have zX:nd.kids≠ []:=λ e=>by rw[e] at k4;simp at k4
   have vw:qU N n=false:=by rw[Bool.eq_false_iff];exact λ e=>zX ((lR h hN).1 e)
   refine⟨k1,?_,k3,by show(nd.kids.map _).length=_;rw[bB];exact k4,k5,k6,λ i a b ha hb e=>?_,λ c hc=>?_⟩
   · show(if qU N n then _ else _)=0
     rw[vw];exact k2
   · rw[bQ,Option.map_eq_some_iff] at ha hb
     obtain⟨a',ha1,rfl⟩:=ha;obtain⟨b',hb1,rfl⟩:=hb;exact k7 i a' b' ha1 hb1 (lY a' b' (mW n hno a' (by rw[ek];exact az ha1)) (mW n hno b' (by rw[ek];exact az hb1)) e)
   · obtain⟨c',hc1,rfl⟩:=eQ.1 hc
     have hco:c'∈order:=mW n hno c' (by rw[ek];exact hc1);have hci:=cW hco;refine⟨hci,λ nk RO hne=>?_⟩;rw[su hci] at RO;have hoc:order[order.idxOf c']?=O c':=by rw[af hci];exact congrArg O (fP hci)
     have ec:order.getD (order.idxOf c') 0=c':=by rw[av,hoc];rfl
     obtain⟨nc,hNc⟩:∃nc,N[c']?=O nc:=⟨_,af (hlt c' hco)⟩;have enc:=ji hNc;cases RO
     have RN:nc.kids≠ []:=λ e=>hne (by show(eR N (order.getD (order.idxOf c') 0)).map _=[];rw[ec];unfold eR;rw[enc,e];rfl)
     show nd.attr<(N.getD (order.getD (order.idxOf c') 0) NB).attr;rw[ec,enc];exact(k8 c' hc1).2 nc hNc RN
theorem Jc(h:BW lim N L)(hr:root<N.length)(ho:order=jm N root)(d0:δ){g:Fc}{n l s:Nat}(hl:tR N g n l s)(hn:n∈order):∃l',tR (om N order) g (order.idxOf n) l' s/\(kf N L d0 order)[l']?=O (L.getD l d0):=by
 have mW:∀n∈order,∀c∈eR N n,c∈order:=by rw[ho];exact oP h root
 induction hl with
 |leaf hN hk=>
  rename_i n nd;have hi:=cW hn;have pY:order[order.idxOf n]?=O n:=by rw[af hi];exact congrArg O (fP hi)
  have e0:order.getD (order.idxOf n) 0=n:=by rw[av,pY];rfl
  have vw:qU N n=true:=(lR h hN).2 hk;have hT:=su (N:=N) hi;refine⟨(zY N order (order.idxOf n)).leaf,.leaf hT (by show(eR N (order.getD (order.idxOf n) 0)).map _=[];rw[e0];unfold eR;rw[ji hN,hk];rfl),?_⟩
  have el:(zY N order (order.idxOf n)).leaf=((order.take (order.idxOf n)).filter (qU N)).length:=by show(if qU N (order.getD (order.idxOf n) 0) then _ else _)=_;rw[e0,if_pos vw]
  rw[el];unfold kf;rw[bQ]
  have hf:(order.filter (qU N))[((order.take (order.idxOf n)).filter (qU N)).length]?=O n:=by
   have hd:order=order.take (order.idxOf n)++n::order.drop (order.idxOf n+1):=by conv=>lhs;rw[<-ia (order.idxOf n) order,<-List.getElem_cons_drop hi,fP hi]
   conv=>lhs;rw[show order.filter (qU N)=(order.take (order.idxOf n)).filter (qU N)++(n::order.drop (order.idxOf n+1)).filter (qU N) from by rw[<-gQ,<-hd]]
   rw[bP (ah _),Nat.sub_self,jU,if_pos vw];rfl
  rw[hf];show O (L.getD (N.getD n NB).leaf d0)=_;rw[ji hN]
 |node hN hk r ih=>
  rename_i n k l s nd;have hi:=cW hn;have pY:order[order.idxOf n]?=O n:=by rw[af hi];exact congrArg O (fP hi)
  have e0:order.getD (order.idxOf n) 0=n:=by rw[av,pY];rfl
  have ek:eR N n=nd.kids:=by unfold eR;rw[ji hN]
  obtain⟨l',h1,h2⟩:=ih (mW n hn k (by rw[ek];exact az hk));refine⟨l',.node (su (N:=N) hi) ?_ h1,h2⟩;show((eR N (order.getD (order.idxOf n) 0)).map λ c=>order.idxOf c)[gT (N.getD (order.getD (order.idxOf n) 0) NB).cJ (eO g (N.getD (order.getD (order.idxOf n) 0) NB).attr)]?=_;rw[e0,ji hN,ek,bQ,hk];rfl
end
section
variable{lim:Zn}{δ:Type}{N:List Nd}{L:List δ}{root:Nat}{order:List Nat}
theorem rG(h:BW lim N L)(hr:root<N.length)(ho:order=jm N root){j:Nat}(hj:j<order.length):∃n nd,order[j]?=O n/\n∈order/\N[n]?=O nd/\order.getD j 0=n/\eR N n=nd.kids/\
 zY N order j=⟨nd.attr,nd.cJ,nd.kids.map λ c=>order.idxOf c,if qU N n then((order.take j).filter (qU N)).length else nd.leaf⟩:=by
 have hlt:∀n∈order,n<N.length:=by rw[ho];exact tW h hr
 obtain⟨n,hn⟩:∃n,order[j]?=O n:=⟨_,af hj⟩;have hno:n∈order:=az hn;have e0:order.getD j 0=n:=by rw[av,hn];rfl
 obtain⟨nd,hN⟩:∃nd,N[n]?=O nd:=⟨_,af (hlt n hno)⟩;have e1:=ji hN;have ek:eR N n=nd.kids:=by unfold eR;rw[e1]
 exact⟨n,nd,hn,hno,hN,e0,ek,by unfold zY;rw[e0,e1,ek]⟩
theorem WA{order:List Nat}{a b:Nat}(ha:a∈order)(hb:b∈order)(e:order.idxOf a=order.idxOf b):a=b:=by have h1:=fP (cW ha);have h2:=fP (cW hb);rw[<-h1,<-h2];congr 1
theorem map_inj{order:List Nat}:∀{k l:List Nat},(∀c∈k,c∈order)->(∀c∈l,c∈order)->(k.map λ c=>order.idxOf c)=(l.map λ c=>order.idxOf c)->k=l
 |[],[],_,_,_=>rfl
 |[],b::l,_,_,e=>by simp at e
 |a::k,[],_,_,e=>by simp at e
 |a::k,b::l,h1,h2,e=>by
  simp only[aH,iq] at e;rw[WA (h1 a bY) (h2 b bY) e.1,map_inj (λ c hc=>h1 c (by simp[hc])) (λ c hc=>h2 c (by simp[hc])) e.2]
theorem rH{p:Nat->Bool}{l:List Nat}{i j n:Nat}(VX:i<j)(h:l[i]?=O n)(hp:p n=true):((l.take i).filter p).length<((l.take j).filter p).length:=by
 have hj:(l.take j)[i]?=O n:=by rw[gP,if_pos VX];exact h
 have :=tX hj hp;rw[List.take_take,Nat.min_eq_left ar] at this;exact this
theorem Jd(h:BW lim N L)(hr:root<N.length)(ho:order=jm N root):(om N order).Nodup:=by
 have nJ:order.Nodup:=by rw[ho];exact lZ N root
 have mW:∀n∈order,∀c∈eR N n,c∈order:=by rw[ho];exact oP h root
 unfold om;refine List.pairwise_map.2 ?_;refine(List.nodup_range (n:=order.length)).imp_of_mem (λ{i j} hi hj VX e=>?_);obtain⟨n,nd,a1,a2,a3,_,a5,a6⟩:=rG h hr ho (bG.1 hi);obtain⟨m,md,b1,b2,b3,_,b5,b6⟩:=rG h hr ho (bG.1 hj);rw[a6,b6] at e;injection e with e1 e2 e3 e4
 have hk:nd.kids=md.kids:=map_inj (λ c hc=>mW n a2 c (by rw[a5];exact hc)) (λ c hc=>mW m b2 c (by rw[b5];exact hc)) e3;have Je:n≠m:=λ q=>VX (pg nJ (ai.1 a1).1 (ai.1 b1).1 (by rw[(ai.1 a1).2,(ai.1 b1).2,q]));cases vw:qU N n with
 |true=>
  have VZ:qU N m=true:=(lR h b3).2 (by rw[<-hk];exact(lR h a3).1 vw);rw[vw,VZ,if_pos rfl,if_pos rfl] at e4;rcases eC i j with q|q
  · have :=rH (p:=qU N) q a1 vw
    omega
  · have :=rH (p:=qU N) (show j<i from ar) b1 VZ
    omega
 |false=>
  have VZ:qU N m=false:=by rw[Bool.eq_false_iff];intro q;have :=(lR h a3).2 (by rw[hk];exact(lR h b3).1 q);rw[vw] at this;cases this
  rw[vw,VZ,if_neg bY,if_neg bY] at e4
  have :nd=md:=by obtain⟨x1,x2,x3,x4⟩:=nd;obtain⟨y1,y2,y3,y4⟩:=md;simp only at e1 e2 hk e4;subst e1 e2 hk e4;rfl
  subst this;obtain⟨p1,p2⟩:=ai.1 a3;obtain⟨r1,r2⟩:=ai.1 b3;exact Je (pg h.nodes p1 r1 (by rw[p2,r2]))
theorem Cv(h:BW lim N L)(hr:root<N.length)(ho:order=jm N root){j:Nat}(hj:j<order.length):((zY N order j).kids=[]↔qU N (order.getD j 0)=true)/\(qU N (order.getD j 0)=true->(zY N order j).leaf=((order.take j).filter (qU N)).length):=by obtain⟨n,nd,a1,a2,a3,a4,a5,a6⟩:=rG h hr ho hj;rw[a6,a4];refine⟨?_,λ q=>by show(if _ then _ else _)=_;rw[if_pos q]⟩;have q:=lR h a3;show nd.kids.map _=[]↔_;rw[List.map_eq_nil_iff,q]
theorem Ba(h:BW lim N L)(hr:root<N.length)(ho:order=jm N root)(d0:δ):(kf N L d0 order).Nodup/\(kf N L d0 order).length=(order.filter (qU N)).length:=by
 have nJ:order.Nodup:=by rw[ho];exact lZ N root
 have hlt:∀n∈order,n<N.length:=by rw[ho];exact tW h hr
 refine⟨?_,by simp[kf]⟩;unfold kf;refine List.pairwise_map.2 ?_;refine(nJ.filter (qU N)).imp_of_mem (λ{a b} ha hb hab e=>hab ?_);obtain⟨ha1,ha2⟩:=dY.1 ha;obtain⟨hb1,hb2⟩:=dY.1 hb;obtain⟨x,hx⟩:∃nd,N[a]?=O nd:=⟨_,af (hlt a ha1)⟩;obtain⟨y,hy⟩:∃nd,N[b]?=O nd:=⟨_,af (hlt b hb1)⟩;rw[ji hx,ji hy] at e;have kx:=(lR h hx).1 ha2;have ky:=(lR h hy).1 hb2;rcases h.form a x hx with⟨x1,x2,x3,x4⟩|⟨_,_,x3,x4,_⟩
 · rcases h.form b y hy with⟨y1,y2,y3,y4⟩|⟨_,_,y3,y4,_⟩
   · rw[av,av,af x4,af y4] at e
     have el:=pg h.leaves x4 y4 e
     have exy:x=y:=by obtain⟨a1,a2,a3,a4⟩:=x;obtain⟨b1,b2,b3,b4⟩:=y;simp only at x1 x2 x3 y1 y2 y3 el;subst x1 x2 x3 y1 y2 y3 el;rfl
     subst exy;obtain⟨p1,p2⟩:=ai.1 hx;obtain⟨r1,r2⟩:=ai.1 hy;exact pg h.nodes p1 r1 (by rw[p2,r2])
   · rw[ky] at y4;simp at y4
 · rw[kx] at x4;simp at x4
theorem O9(h:BW lim N L)(hr:root<N.length)(ho:order=jm N root)(d0:δ){g:Fc}{d:δ}(hs:Sem N L root g d):Sem (om N order) (kf N L d0 order) 0 g d:=by
 obtain⟨l,s,h1,h2⟩:=hs;have tU:root∈order:=by rw[ho];exact BV N cj [] root
 obtain⟨l',k1,k2⟩:=Jc h hr ho d0 h1 tU
 have h0:order.idxOf root=0:=by
  have nJ:order.Nodup:=by rw[ho];exact lZ N root
  refine RM nJ ?_;rw[ho];unfold jm mX;rw[if_neg bY];obtain⟨t,ht⟩:=tT (uL N 11) (eR N root) ([]++[root]);rw[<-ht];rfl
 rw[h0] at k1;refine⟨l',s,k1,?_⟩;rw[k2,av,h2];rfl
theorem Lu(h:BW lim N L)(ho:order=jm N root):mX (om N order) 12 [] 0=List.range order.length:=O8 h.Ls (xK N root) order ho
end
end
section
open Go.RowKit Go.Shelf
attribute [local go_sem] aQ aC bW
theorem tY(l:List UInt8):(⟨l.toArray⟩:BA0).size=l.length:=by simp[ByteArray.size]
def nu(w:agb):Prop:=Lib.TabIs prog w "internal/strconv.uint64pow10" .u64 Lib.pow10Tab
theorem nu.below{w w':agb}(h:nu w)(hb:aZ w w'):nu w':=Lib.tabBelow_of_tabIs h w' hb
theorem below_grow{B:Nat}(w:agb)(os:Array Obj)(hB:B<=w.heap.size):Below B w (Go.Sort.grow w os):=
 ⟨rfl,rfl,rfl,by simp[Go.Sort.grow],λ k hk=>by simp[Go.Sort.grow,iU (show k<w.heap.size from ar)]⟩
theorem Cw(n:Int)(h0: -9223372036854775808<=n)(h1:n<=9223372036854775807)(w:agb)(ht:nu w):
 Calls prog 83 #[I J n] w (jL (.string ⟨(Lib.itoa n).toArray⟩) w):=
 (Tryz.strconv_Itoa n h0 h1 w ht).mono λ e w' ⟨he,k,os,hw⟩=>⟨he,by subst hw;have h1:aZ w (w.drewN k):=below_drewN (aA _ _) k;exact h1.trans (below_grow _ os h1.size)⟩
theorem Cx{T e:TypeId}{B b:Nat}{bs:List R}{w w':agb}(h:Lib.IsBuilder T e B b bs w)(hb:aZ w w'):Lib.IsBuilder T e B b bs w':=by
 have key:∀{p:R},Lib.BuilderAt T e B b p bs w->Lib.BuilderAt T e B b p bs w':=λ h=>by obtain⟨h1,v,h2,h3,h4⟩:=h;have hlt:b<w.heap.size:=Bk.lt h2;exact⟨h1,v,(hb.block b hlt).trans h2,RI h3 hb (λ g hg=>jd h3 hg |>.2),h4⟩
 exact h.imp key key
def jn(l:List Int):List UInt8:=l.flatMap λ n=>Lib.itoa n++[32]
def jE(ls:List (List Int)):List UInt8:=ls.flatMap λ l=>jn l++[59]
theorem Lz{l:List Int}{k:Nat}{n:Int}(h:l[k]?=O n):jn (l.take (k+1))=jn (l.take k)++(Lib.itoa n++[32]):=by unfold jn;rw[bu,h,eJ];simp
theorem LA{ls:List (List Int)}{k:Nat}{l:List Int}(h:ls[k]?=O l):jE (ls.take (k+1))=jE (ls.take k)++(jn l++[59]):=by unfold jE;rw[bu,h,eJ];simp
theorem Fm{l:List Int}(h:∀n∈l,-9223372036854775808<=n/\n<=9223372036854775807):(jn l).length<=22*l.length:=by
 induction l with
 |nil=>simp[jn]
 |cons n r ih=>
  have h1:=ih λ l hl=>h l (by simp[hl]);have h2:=h n bY;have h3:=Lib.itoa_length_le n h2.1 h2.2;have e:jn (n::r)=(Lib.itoa n++[32])++jn r:=by simp[jn]
  rw[e];simp only[ax,bD,dG];omega
theorem uM{ls:List (List Int)}{m:Nat}(hm:∀l∈ls,l.length<=m)(h:∀l∈ls,∀n∈l,-9223372036854775808<=n/\n<=9223372036854775807):(jE ls).length<=(22*m+1)*ls.length:=by
 induction ls with
 |nil=>simp[jE]
 |cons l r ih=>
  have h1:=ih (λ l hl=>hm l (by simp[hl])) λ l hl=>h l (by simp[hl]);have h2:=Fm (h l bY);have h3:=hm l bY;have h4:22*l.length<=22*m:=Nat.mul_le_mul_left _ h3;have e:jE (l::r)=(jn l++[59])++jE r:=by simp[jE]
  rw[e];simp only[ax,bD,dG,Nat.mul_succ];omega
abbrev Cy:Ty (List Int):=eF dr
theorem Cz(A:dB)(ls:List (List Int))(n cap:Nat)(hn:ls.length=n)(w:agb)(B:Nat)(h:cG Cy w B A ls)(hB:B<=w.heap.size)(hl:n<=10)(hm:∀l∈ls,l.length<=1000000)(ht:nu w):
 Calls prog 38 #[G A n cap] w (jL (.string ⟨(jE ls).toArray⟩) w):=by
 have qd:∀l∈ls,∀x∈l,-9223372036854775808<=x/\x<=9223372036854775807:=λ l hl x hx=>by obtain⟨i,hi,rfl⟩:=bo.1 hl;obtain⟨b,off,cs,hA,hb,⟨A2,adU,rfl,k1,k2,k3⟩,hc⟩:=h i hi;obtain⟨j,hj,rfl⟩:=bo.1 hx;obtain⟨b3,aif,cs3,_,_,⟨_,q1,q2⟩,_⟩:=k3 j hj;exact⟨q1,q2⟩
 have O3:∀k,(jE (ls.take k)).length<=220000010:=λ k=>by
  have q:=uM (ls:=ls.take k) (m:=1000000) (λ l hl=>hm l (jB hl)) (λ l hl=>qd l (jB hl));have :(ls.take k).length<=10:=by rw[dh];omega
  have :=Nat.mul_le_mul_left (22*1000000+1) this;omega
 have HH:=uF h hm qd O3 ht hn;clear h hm qd O3 ht hn;go_enter func38,ntmps38;go_upto_region 2 with(fail);refine forget (λ X=>aZ w X/\Lib.IsBuilder 200 5 w.heap.size w.heap.size [] X) ⟨aj _ _,Lib.fresh_isBuilder _ _ _⟩ ?_;rintro X ⟨hX,hb⟩;have HX:=dt hX hb;clear hX hb;go_wp2_with fail;go_loopw [10] (λ i wr=>∃k:Nat,k<=n/\i=I J k/\aZ w wr/\Lib.IsBuilder 200 5 w.heap.size w.heap.size (Lib.byteCells (jE (ls.take k))) wr) (λ i _=>n - (intOf i).toNat)
 case atStart=>exact⟨0,ar,rfl,HX.q1,HX.t1⟩
 case round=>
  obtain⟨k,hk,rfl,bI,hb⟩:=hrel;generalize wr=wA at *;have hz:=bI.size;by_cases hlt:k<n
  · as_aux_lemma=>
    obtain⟨b,off,l,cs,rfl,pZ,_,Hx,hml,⟨A2,adU,rfl,k1,k2,k3⟩,hc⟩:=(HH.q1.keep (bI.mono hB) (ah _)).pick (k:=k) (by rw[HH.t5];exact hlt)
    have c0:wA.cell? ⟨b,off+k,U⟩=O (G A2 l.length adU):=by have :=hc 0 _ rfl;have e:Cy.n=1:=rfl;simpa [e] using this
    have bw:b<wA.heap.size:=ar;have kq:(k:Int)<(n:Int):=ar;have hl1:=HH.q2 l hml;have wY:=HH.q3 l hml;have zZ:=λ j=>Fm (l:=l.take j) (λ x hx=>wY x (jB hx));have hst:=LA Hx;have Zd:=HH.q4 k;obtain⟨T,hT⟩:∃T,jE (ls.take k)=T:=⟨_,rfl⟩;rw[hT] at hb hst Zd;have HA:=yJ bI hb hst k3 wY zZ Zd;clear bI hb hst k3 wY zZ Zd hc Hx hml;go_wp2_with fail;go_loopw [16] (λ i wr=>∃j:Nat,j<=l.length/\i=I J j/\Below w.heap.size wA wr/\Lib.IsBuilder 200 5 w.heap.size w.heap.size (Lib.byteCells (T++jn (l.take j))) wr) (λ i _=>l.length - (intOf i).toNat)
    case atStart=>exact⟨0,ar,rfl,aA _ _,by simpa [jn] using HA.q2⟩
    case round=>
     obtain⟨j,hj,rfl,Fo,hb2⟩:=hrel;generalize wr=wB at *;have hz2:=Fo.size;by_cases rE:j<l.length
     · as_aux_lemma=>
       obtain⟨b2,WB,x,rfl,aoM,_,Hx2,d0,f1,f2⟩:=(HA.q4.keep (Fo.mono hB) (ah _)).fC rE;have bw2:b2<wB.heap.size:=ar;have aoO:(j:Int)<(l.length:Int):=ar;have yR:=Lz Hx2.o;have hlen:=HA.q6 j;have hTl:=HA.t6;have RP:(l.take j).length<=1000000:=by rw[dh];omega
       have hIT:=Lib.itoa_length_le x f1 f2;obtain⟨IT,hI⟩:∃aad:BA0,aad=⟨(Lib.itoa x).toArray⟩:=⟨_,rfl⟩;have hIs:IT.size<=21:=by rw[hI,tY];exact hIT
       have hit:=λ(w:agb) (ht:nu w)=>Cw x f1 f2 w ht;rw[<-hI] at hit
       have pD:Lib.byteCells (T++jn (l.take j))++Lib.strCells (IT++(⟨#[32]⟩:BA0))=Lib.byteCells (T++jn (l.take (j+1))):=by rw[yR,hI];simp[Lib.byteCells,Lib.strCells]
       have hbl:(Lib.byteCells (T++jn (l.take j))).length<=300000000:=by simp only[Lib.byteCells,bB,ax];omega
       have HB:=lQ Fo hb2 pD hit hbl;clear Fo hb2 pD hit hbl hI yR hlen hTl RP hIT Hx2
       go_wp2_with (first
        |(go_at_call 83;refine(HB.q4 _ (HH.q5.below (HA.q1.trans HB.q1))).mono ?_;rintro e w2 ⟨rfl,z1⟩;have HZ:=aG z1;have hz3:=z1.size;clear z1)
        |(go_at_call 82;refine(Tryz.Builder_WriteString w.heap.size w.heap.size _ (IT++(⟨#[32]⟩:BA0)) _ (Cx HB.q2 HZ.o) (by have :=HB.t4;rw[ByteArray.size_append];have :(⟨#[32]⟩:BA0).size=1:=rfl;omega) ar).mono ?_;rintro e w3 ⟨rfl,z1,z2⟩;have Q8:=dt z1 z2;clear z1 z2))
       go_roundw
       case rel=>exact⟨j+1,ar,gC,HB.q1.trans ((HZ.o.mono ar).trans Q8.t1),by rw[<-HB.q3];exact .inr Q8.q1⟩
       case measure=>simp[intOf];omega
     · as_aux_lemma=>
       obtain rfl:j=l.length:=ar;rw[aX] at hb2;have hlen:=HA.q6 l.length;rw[aX] at hlen;have hTl:=HA.t6
       have hbl:(Lib.byteCells (T++jn l)).length<=300000000:=by simp only[Lib.byteCells,bB,ax];omega
       have pD:Lib.byteCells (T++jn l)++[Value.int .u8 59]=Lib.byteCells (jE (ls.take (k+1))):=by rw[HA.q3];simp[Lib.byteCells]
       have HB:=iM Fo hb2 pD hbl;clear Fo hb2 pD hbl hlen hTl;go_wp2_with (go_at_call 84;refine(Tryz.Builder_WriteByte w.heap.size w.heap.size _ 59 _ HB.q2 (by have :=HB.t3;omega) ar).mono ?_;rintro e w3 ⟨rfl,z1,z2⟩;have Q8:=dt z1 z2;clear z1 z2);go_roundw
       case rel=>exact⟨k+1,ar,gC,HA.q1.trans (HB.q1.trans Q8.t1),by rw[<-HB.q3];exact .inr Q8.q1⟩
       case measure=>simp[intOf];omega
  · as_aux_lemma=>obtain rfl:k=n:=ar;have hl2:ls.take k=ls:=cU (by rw[HH.t5];omega);rw[hl2] at hb;have HA:=dt bI hb;clear bI hb hl2;go_wp2_with (go_at_call 85;refine(Tryz.Builder_String_any w.heap.size w.heap.size (jE ls) _ HA.t1 hz).mono ?_;rintro e w2 ⟨rfl,z1⟩;have HZ:=aG z1;clear z1);go_ret;exact⟨rfl,HA.q1.trans HZ.o⟩
end
section
open Go.RowKit
abbrev Ts:=BA0×Int×BA0×Int×Int
abbrev It:=Int×BA0×List (List Ts)×Int×(Int×Int)×(Int×Int)×Int
def jw:BA0:=⟨#[]⟩
def Jf:BA0:=⟨#[46]⟩
def gu:List BA0:=[⟨#[116,105,109,101]⟩,⟨#[97,103,101]⟩,⟨#[109,101,109,98,101,114]⟩,⟨#[115,104,111,119]⟩,⟨#[108,101,118,101,108]⟩,⟨#[98,108,111,99,107]⟩,⟨#[107,105,110,100]⟩,⟨#[118,105,101,119]⟩,⟨#[115,105,122,101]⟩,⟨#[104,101,108,100]⟩]
def sw:List BA0:=[⟨#[115,101,97,116]⟩,⟨#[119,104,101,101,108]⟩,⟨#[98,101,115,105,100,101]⟩,⟨#[115,116,97,110,100]⟩]
def iH(s:BA0):List BA0->Option Nat
 |[]=>U
 |x::l=>if s=x then O 0 else(iH s l).map (· +1)
abbrev Nm:=List BA0×List BA0
def oq(L:Nm)(a:Nat):List BA0:=if a=4 then L.1 else if a=5 then L.2 else sw
def eI(L:Nm)(t:Ts):Int×Nat×Int:=
 match iH t.1 gu with
 |none=>(8,0,0)
 |some a=>
  if t.2.1<1\/6<t.2.1\/(t.2.2.1≠jw/\¬(a=4\/a=5\/a=6)) then(10,0,0)
  else match(if t.2.2.1=jw then O t.2.2.2.1 else(iH t.2.2.1 (oq L a)).map λ(n:Nat)=>(n:Int)) with
   |none=>(8,0,0)
   |some n=>if n<0\/1000000000<n then(2,0,0) else(0,a,n)
def kg(r:Rg)(op n:Int):List Rg:=
 if op=1 then [(max r.1 n,min r.2 n)] else if op=2 then [(r.1,min r.2 (n - 1)),(max r.1 (n+1),r.2)] else if op=3 then [(r.1,min r.2 (n - 1))]
 else if op=4 then [(r.1,min r.2 n)] else if op=5 then [(max r.1 (n+1),r.2)] else if op=6 then [(max r.1 n,r.2)] else []
def sx(r:Rg)(op n:Int):List Rg:=(kg r op n).filter λ r=>decide (r.1<=r.2)
def mf(z:Zn)(a:Nat)(op n:Int):List Zn:=(sx (atR z a) op n).map λ r=>z.set a r
def mH:Zn:=[(0,1000000000),(0,150),(0,1),(0,19),(0,7),(0,319),(0,3),(0,3),(1,12),(0,100)]
def mI(L:Nm)(out:List Zn)(t:Ts):List Zn:=out.flatMap λ z=>mf z (eI L t).2.1 t.2.1 (eI L t).2.2
def gJ(L:Nm)(l:List Ts):List Zn:=l.foldl (mI L) [mH]
def jI(L:Nm)(x:It):List Zn:=if x.2.2.1=[] then [mH] else x.2.2.1.flatMap (gJ L)
def ou(r:Int×Int)(has:Bool)(most:Int):Bool:=
 if has then decide (1<=r.2)&&decide (r.2<=1000000)&&decide (0<=r.1)&&decide (r.1<=most*r.2)&&decide (r.1<=1000000) else decide (r=(0,0))
def Aa(k:Int):Int:=if k=1 then 100 else if k=3 then 10000000 else 0
def lK(x:It):Bool:=
 decide (0<=x.2.2.2.1)&&decide (x.2.2.2.1<=Aa x.1)&&ou x.2.2.2.2.1 (decide (x.1=3)||decide (x.1=4)||decide (x.1=5)) (if x.1=4 then 10 else 1)&&ou x.2.2.2.2.2.1 (decide (x.1=3)||decide (x.1=4)) 1
def kP(L:Nm):List Ts->Option (Int×Int)
 |[]=>U
 |t::l=>if(eI L t).1=0 then kP L l else O ((eI L t).1,t.2.2.2.2)
def oQ(L:Nm):List (List Ts)->Option (Int×Int)
 |[]=>U
 |l::r=>match kP L l with
  |some e=>O e
  |none=>oQ L r
def fN(L:Nm)(twice:Bool)(x:It):Int×Int:=
 if twice=true then(9,-1) else if x.1<1\/7<x.1 then(10,-1) else if lK x=false then(2,-1)
 else match oQ L x.2.2.1 with
  |some e=>e
  |none=>if 200<(jI L x).length then(3,-1) else(0,0)
def vx(L:Nm)(x:It):Rl:=(x.1,x.2.1,jI L x,x.2.2.2.1,x.2.2.2.2.1,x.2.2.2.2.2.1)
def pE:Rl:=(0,jw,[],0,(0,0),(0,0))
def ny(l:List It)(i:Nat)(x:It):Bool:=(l.take i).any λ y=>decide (y.2.1=x.2.1)
abbrev Fa:=Int×Int×Int
def dC(L:Nm)(l:List It):Nat->List Fa
 |0=>[]
 |i+1=>dC L l i++match l[i]? with
  |none=>[]
  |some x=>if(fN L (ny l i x) x).1=0 then [] else [((fN L (ny l i x) x).1,x.2.2.2.2.2.2,(fN L (ny l i x) x).2)]
def dZ(L:Nm)(l:List It):Nat->List Rl
 |0=>[]
 |i+1=>dZ L l i++match l[i]? with
  |none=>[]
  |some x=>[if(fN L (ny l i x) x).1=0 then vx L x else pE]
def je(L:Nm)(l:List It):List Fa:=dC L l (min l.length 200)++match l[200]? with
 |none=>[]
 |some x=>[(3,x.2.2.2.2.2.2,-1)]
def jx(L:Nm)(l:List It):List Rl:=if je L l=[] then dZ L l l.length else []
end
section
open Go.RowKit
attribute [local go_sem] aQ aC bW
abbrev Hd:=dB×Nat×Nat
def Jh:Ty Hd where
 n:=1
 rd:=λ _ _ cs x=>cs=[G x.1 x.2.1 x.2.2]
 len:=by rintro _ _ _ _ rfl;rfl
 keep:=λ _ _ h=>h
abbrev Bl:=BA0×Hd×Int
abbrev Bx:=Int×Int×Int×Int
abbrev Ar:=BA0×Bx×Int×Int
abbrev Le:=BA0×Int×List Bl×List Ar×Hd×Hd×Hd×Int
abbrev adW:Ty Bx:=fy dr (fy dr (fy dr dr))
abbrev Ze:Ty Bl:=fy mY (fy Jh dr)
abbrev Zf:Ty Ar:=fy mY (fy adW (fy dr dr))
abbrev Ji:Ty Le:=fy mY (fy dr (fy (xL Ze) (fy (xL Zf) (fy Jh (fy Jh (fy Jh dr))))))
abbrev Ha:=BA0×(Int×Int)×List Le
abbrev Fs:Ty Ts:=fy mY (fy dr (fy mY (fy dr dr)))
abbrev Fu:Ty It:=fy dr (fy mY (fy (eF (eF Fs)) (fy dr (fy RJ (fy RJ dr)))))
section
variable{w:agb}{B:Nat}{A:dB}
theorem GJ{ls:List Le}(h:cG Ji w B A ls){k:Nat}(hk:k<ls.length):
 ∃b off nm ht AB bs cb AA tk ca h1 h2 h3 fR,A=O ⟨b,off,U⟩/\b<B/\Hid (ls[k]?=O (nm,ht,bs,tk,h1,h2,h3,fR))/\
  w.cell? ⟨b,off+k*8,U⟩=O (.string nm)/\w.cell? ⟨b,off+k*8+1,U⟩=O (I J ht)/\w.cell? ⟨b,off+k*8+2,U⟩=O (G AB bs.length cb)/\w.cell? ⟨b,off+k*8+3,U⟩=O (G AA tk.length ca)/\
  w.cell? ⟨b,off+k*8+4,U⟩=O (G h1.1 h1.2.1 h1.2.2)/\w.cell? ⟨b,off+k*8+5,U⟩=O (G h2.1 h2.2.1 h2.2.2)/\w.cell? ⟨b,off+k*8+6,U⟩=O (G h3.1 h3.2.1 h3.2.2)/\w.cell? ⟨b,off+k*8+7,U⟩=O (I J fR)/\
  nm.size<=1125899906842624/\bs.length<=1125899906842624/\tk.length<=1125899906842624/\Hid (cG Ze w B AB bs)/\Hid (cG Zf w B AA tk):=by
 obtain⟨b,off,⟨nm,ht,bs,tk,h1,h2,h3,fR⟩,cs,hA,hb,_,hx,_,⟨c1,r1,rfl,⟨rfl,g1⟩,⟨c2,r2,rfl,⟨rfl,g2⟩,⟨c3,r3,rfl,⟨⟨AB,cb,rfl,g3,g4,g5⟩,k1⟩,⟨c4,r4,rfl,⟨⟨AA,ca,rfl,g6,g7,g8⟩,k2⟩,⟨c5,r5,rfl,rfl,⟨c6,r6,rfl,rfl,⟨c7,r7,rfl,rfl,⟨rfl,g9⟩⟩⟩⟩⟩⟩⟩⟩,hc⟩:=h.pick hk;exact⟨b,off,nm,ht,AB,bs,cb,AA,tk,ca,h1,h2,h3,fR,hA,hb,hx,hc 0 _ rfl,hc 1 _ rfl,hc 2 _ rfl,hc 3 _ rfl,hc 4 _ rfl,hc 5 _ rfl,hc 6 _ rfl,hc 7 _ rfl,g1,k1,k2,g5,g8⟩
theorem NF{ls:List Bl}(h:cG Ze w B A ls){k:Nat}(hk:k<ls.length):
 ∃b off nm h1 fR,A=O ⟨b,off,U⟩/\b<B/\Hid (ls[k]?=O (nm,h1,fR))/\
  w.cell? ⟨b,off+k*3,U⟩=O (.string nm)/\w.cell? ⟨b,off+k*3+1,U⟩=O (G h1.1 h1.2.1 h1.2.2)/\w.cell? ⟨b,off+k*3+2,U⟩=O (I J fR)/\nm.size<=1125899906842624:=by
 obtain⟨b,off,⟨nm,h1,fR⟩,cs,hA,hb,_,hx,_,⟨c1,r1,rfl,⟨rfl,g1⟩,⟨c2,r2,rfl,rfl,⟨rfl,g2⟩⟩⟩,hc⟩:=h.pick hk;exact⟨b,off,nm,h1,fR,hA,hb,hx,hc 0 _ rfl,hc 1 _ rfl,hc 2 _ rfl,g1⟩
theorem NG{ls:List Ar}(h:cG Zf w B A ls){k:Nat}(hk:k<ls.length):
 ∃b off nm x1 x2 x3 x4 hd fR,A=O ⟨b,off,U⟩/\b<B/\Hid (ls[k]?=O (nm,(x1,x2,x3,x4),hd,fR))/\
  w.cell? ⟨b,off+k*7,U⟩=O (.string nm)/\w.cell? ⟨b,off+k*7+1,U⟩=O (I J x1)/\w.cell? ⟨b,off+k*7+2,U⟩=O (I J x2)/\w.cell? ⟨b,off+k*7+3,U⟩=O (I J x3)/\w.cell? ⟨b,off+k*7+4,U⟩=O (I J x4)/\w.cell? ⟨b,off+k*7+5,U⟩=O (I J hd)/\w.cell? ⟨b,off+k*7+6,U⟩=O (I J fR)/\nm.size<=1125899906842624:=by
 obtain⟨b,off,⟨nm,⟨x1,x2,x3,x4⟩,hd,fR⟩,cs,hA,hb,_,hx,_,⟨c1,r1,rfl,⟨rfl,g1⟩,⟨c2,r2,rfl,⟨d1,s1,rfl,⟨rfl,_⟩,⟨d2,s2,rfl,⟨rfl,_⟩,⟨d3,s3,rfl,⟨rfl,_⟩,⟨rfl,_⟩⟩⟩⟩,⟨c3,r3,rfl,⟨rfl,_⟩,⟨rfl,_⟩⟩⟩⟩,hc⟩:=h.pick hk;exact⟨b,off,nm,x1,x2,x3,x4,hd,fR,hA,hb,hx,hc 0 _ rfl,hc 1 _ rfl,hc 2 _ rfl,hc 3 _ rfl,hc 4 _ rfl,hc 5 _ rfl,hc 6 _ rfl,g1⟩
theorem NH{ls:List Ts}(h:cG Fs w B A ls){k:Nat}(hk:k<ls.length):
 ∃b off nm op nn n fR,A=O ⟨b,off,U⟩/\b<B/\Hid (ls[k]?=O (nm,op,nn,n,fR))/\
  w.cell? ⟨b,off+k*5,U⟩=O (.string nm)/\w.cell? ⟨b,off+k*5+1,U⟩=O (I J op)/\w.cell? ⟨b,off+k*5+2,U⟩=O (.string nn)/\w.cell? ⟨b,off+k*5+3,U⟩=O (I J n)/\w.cell? ⟨b,off+k*5+4,U⟩=O (I J fR)/\nm.size<=1125899906842624/\nn.size<=1125899906842624/\fits op/\fits n/\fits fR:=by
 obtain⟨b,off,⟨nm,op,nn,n,fR⟩,cs,hA,hb,_,hx,_,⟨c1,r1,rfl,⟨rfl,g1⟩,⟨c2,r2,rfl,⟨rfl,g2⟩,⟨c3,r3,rfl,⟨rfl,g3⟩,⟨c4,r4,rfl,⟨rfl,g4⟩,⟨rfl,g5⟩⟩⟩⟩⟩,hc⟩:=h.pick hk;exact⟨b,off,nm,op,nn,n,fR,hA,hb,hx,hc 0 _ rfl,hc 1 _ rfl,hc 2 _ rfl,hc 3 _ rfl,hc 4 _ rfl,g1,g3,g2,g4,g5⟩
theorem CF{ls:List (List Ts)}(h:cG (eF Fs) w B A ls){k:Nat}(hk:k<ls.length):
 ∃b off A1 l c1,A=O ⟨b,off,U⟩/\b<B/\Hid (ls[k]?=O l)/\w.cell? ⟨b,off+k,U⟩=O (G A1 l.length c1)/\l.length<=9223372036854775807/\Hid (cG Fs w B A1 l):=by
 obtain⟨b,off,l,cs,hA,hb,_,hx,_,⟨A1,c1,rfl,g1,g2,g3⟩,hc⟩:=h.pick hk;refine⟨b,off,A1,l,c1,hA,hb,hx,?_,by unfold maxLen at g2;omega,g3⟩;have :=hc 0 _ rfl;have e:(eF Fs).n=1:=rfl;simpa [e] using this
theorem xN{ls:List It}(h:cG Fu w B A ls){k:Nat}(hk:k<ls.length):
 ∃b off kd nm AW ws cw n rn rd sn sd fR,A=O ⟨b,off,U⟩/\b<B/\Hid (ls[k]?=O (kd,nm,ws,n,(rn,rd),(sn,sd),fR))/\
  w.cell? ⟨b,off+k*9,U⟩=O (I J kd)/\w.cell? ⟨b,off+k*9+1,U⟩=O (.string nm)/\w.cell? ⟨b,off+k*9+2,U⟩=O (G AW ws.length cw)/\w.cell? ⟨b,off+k*9+3,U⟩=O (I J n)/\
  w.cell? ⟨b,off+k*9+4,U⟩=O (I J rn)/\w.cell? ⟨b,off+k*9+5,U⟩=O (I J rd)/\w.cell? ⟨b,off+k*9+6,U⟩=O (I J sn)/\w.cell? ⟨b,off+k*9+7,U⟩=O (I J sd)/\w.cell? ⟨b,off+k*9+8,U⟩=O (I J fR)/\
  nm.size<=1125899906842624/\ws.length<=9223372036854775807/\Hid (cG (eF Fs) w B AW ws)/\fits kd/\fits n/\fits rn/\fits rd/\fits sn/\fits sd/\fits fR/\
  Hid (Fu.rd w B [I J kd,.string nm,G AW ws.length cw,I J n,I J rn,I J rd,I J sn,I J sd,I J fR] (kd,nm,ws,n,(rn,rd),(sn,sd),fR)):=by
 obtain⟨b,off,⟨kd,nm,ws,n,⟨rn,rd⟩,⟨sn,sd⟩,fR⟩,cs,hA,hb,_,hx,_,hr,hc⟩:=h.pick hk;have Fv:=hr;obtain⟨c1,r1,rfl,⟨rfl,h1⟩,⟨c2,r2,rfl,⟨rfl,h2⟩,⟨c3,r3,rfl,⟨AW,cw,rfl,h3,h4,h5⟩,⟨c4,r4,rfl,⟨rfl,h6⟩,⟨c5,r5,rfl,⟨a1,b1,rfl,⟨rfl,f1⟩,⟨rfl,f2⟩⟩,⟨c6,r6,rfl,⟨a2,b2,rfl,⟨rfl,f3⟩,⟨rfl,f4⟩⟩,⟨rfl,f5⟩⟩⟩⟩⟩⟩⟩:=hr;exact⟨b,off,kd,nm,AW,ws,cw,n,rn,rd,sn,sd,fR,hA,hb,hx,hc 0 _ rfl,hc 1 _ rfl,hc 2 _ rfl,hc 3 _ rfl,hc 4 _ rfl,hc 5 _ rfl,hc 6 _ rfl,hc 7 _ rfl,hc 8 _ rfl,h2,by have Zg:ws.length<=cw:=h3;unfold maxLen at h4;omega,h5,h1,h6,f1,f2,f3,f4,f5,Fv⟩
end
def wh(l:List (BA0×R))(s:BA0)(n:Int):List (BA0×R):=if fJ s l=U then l++[(s,I J n)] else l
theorem Fw{k:BA0}:∀{l:List (BA0×R)}{s:BA0}{v:R},fJ s l=U->fJ k (l++[(s,v)])=if k=s then O v else fJ k l
 |[],s,v,_=>rfl
 |p::l,s,v,h=>by
  show(if k=p.1 then O p.2 else fJ k (l++[(s,v)]))=if k=s then O v else(if k=p.1 then O p.2 else fJ k l)
  have h':(if s=p.1 then O p.2 else fJ s l)=U:=h;by_cases hs:s=p.1
  · rw[if_pos hs] at h';cases h'
  · rw[if_neg hs] at h'
    by_cases hk:k=p.1
    · rw[if_pos hk,if_pos hk,if_neg]
      rintro rfl;exact hs hk
    · rw[if_neg hk,if_neg hk]
      exact Fw h'
theorem vz(w:agb):(zeroValue 112).run prog w=.ok (.map U) w:=aV
theorem pF(w:agb):(zeroValue 3).run prog w=.ok (I J 0) w:=aV
theorem Fx(a n:Int)(s:BA0)(vb sb ma mn mt:Nat)(l:List (Int×R))(E:List (BA0×R))(w:agb)(hv:Bk w vb #[M (O ⟨sb,0,U⟩)] 92)(hs:Bk w sb #[.map (O ma),.map (O mn)] 189)
 (hI:eh w mn l)(ha:gj a l=O (.map (O mt)))(hS:cS w mt E):
 Calls prog 74 #[I J a,.string s,I J n,M (O ⟨vb,0,U⟩)] w λ e w'=>e=.returned (.tuple #[])/\cS w' mt (wh E s n)/\Only (λ g=>g=mt) w w':=by
 obtain⟨c0,l0⟩:=hv.cl0;obtain⟨c1,l1⟩:=hs.cl0;have HI:=aG hI;have HS:=aG hS;have Ha:=aG ha;clear hv hs hI hS ha;go_enter func74,ntmps74;by_cases hf:fJ s E=U
 · have he:wh E s n=E++[(s,I J n)]:=by unfold wh;rw[if_pos hf]
   rw[he];have Hf:=aG hf;clear hf he
   go_wp2_with (first
    |(at_lookup;first
     |(refine dQ rfl _ _ _ rfl 3 112 ij aJ (.map U) (vz _) rfl HI.o a rfl ?_;rw[Ha.o,dD])
     |(refine nO rfl _ _ _ rfl 9 3 bC bn (I J 0) (pF _) rfl HS.o s rfl ?_;rw[Hf.o,Option.getD_none,Option.isSome_none]))
    |(at_mapUpdate;refine Fq rfl _ _ _ _ rfl 9 3 bC bn rfl HS.o s rfl Hf.o _ rfl ?_;intro w2 tH tI;have HQ:=dt tH tI;clear tH tI))
   go_end0;exact⟨rfl,HQ.o⟩
 · have he:wh E s n=E:=by unfold wh;rw[if_neg hf]
   obtain⟨v,hv⟩:∃v,fJ s E=O v:=by
    cases h:fJ s E with
    |none=>exact absurd h hf
    |some v=>exact⟨v,rfl⟩
   have Hv:=aG hv;rw[he];clear hf he hv
   go_wp2_with (at_lookup;first
    |(refine dQ rfl _ _ _ rfl 3 112 ij aJ (.map U) (vz _) rfl HI.o a rfl ?_;rw[Ha.o,dD])
    |(refine nO rfl _ _ _ rfl 9 3 bC bn (I J 0) (pF _) rfl HS.o s rfl ?_;rw[Hv.o,dD,gR]))
   go_end0;exact⟨rfl,HS.o,Only.refl _ _⟩
end
section
open Go.RowKit Go.ChangeShapes Go.WideShapes Go.ChangeAt
theorem own:ownKnob prog.godebug=U:=aV
theorem laidOut:laidOutB prog=true:=aV
theorem CG{P:Program}{W:agb}{name:String}{k:IntKind}{zs:List Int}{g:Nat}{t e:TypeId}{n:Nat}
 (hg:P.globalNamed name=O g)(NI:(P.globals[g]?).map (·.type)=O t)(ht:P.underlying t=O (.array n e))(he:P.underlying e=O (.int k))(hce:P.cellsOf e=1)(hct:P.cellsOf t=n)
 (h:Lib.VarReads P W name (Lib.tabData k zs)):Lib.TabIs P W name k zs:=by
 obtain⟨g',t',cs,fuel,p,II,GD,Bb,hd⟩:=h;obtain rfl:=aO (hg.symm.trans II);obtain rfl:=aO (NI.symm.trans GD);unfold Lib.TabIs;rw[Bb,<-Lib.cells_of_tab ht he hce hct hd]
theorem GK{W:agb}(h:laidMetH prog Rows.topSilentRow.laid W):nu W:=by rw[MakeChecks.laidMetH_plain _ _ _ aV] at h;exact CG (g:=0) aV (t:=347) aV underlying347 underlying297 aV aV (Lib.laidMet.reads h (.tail _ (.tail _ (.head _))))
theorem GL{C:Checked}{os:Os}{H:Type}{enc:TypeId×R->H}{f:FuncId}{fn:Func}{s:ChangeSpec}{tb:TypeId}{laid:List (String×DataW Unit)}
 (own:ownKnob C.prog.godebug=U)(started:os.Started)(aal:C.prog.inits.idxOf? f=U)(hfn:C.prog.funcs[f]?=O fn)
 (hv:s.vars=[])(hs:∀ds:List (DataW H),ds.length=fn.params.size->s.fn H ds= {results:=[.lit (.bool true)],args:=ds})
 (hres:fn.resultTypes=#[tb])(uG:C.prog.underlying tb=O .bool)(hl:laidOutB C.prog=true)(hr:∀t∈fn.params.toList,C.prog.readableRec t=true/\t<C.prog.types.size)
 (witness:∃(w:agb) (tape:Tape) (i:Input),w.os=os/\(w.forCall tape i).Shaped C.prog/\i.vars=[]/\Input.okWide C.prog (w.forCall tape i) .any w.heap.size f i/\
  ((s.pre enc C.prog fn [] false (w.forCall tape i).memory i.args/\laidMetH C.prog laid (w.forCall tape i).memory)/\sizedMet enc C.prog fn (OpenSpec.ofChange s) false (w.forCall tape i).memory i.args)/\({}:Assume).holds C.prog (lone (Frame.enter C.prog f i.args .normal) [] (w.forCall tape i)))
 (walk:∀(W:agb)(args:Array R),laidMetH C.prog laid W->nN C.prog H enc W fn.params.toList args.toList->Calls C.prog f args W λ e W'=>e=.returned (.bool true)/\aZ W W'):
 ReturnsInHanded {} C os f .any (λ w args=>(s.pre enc C.prog fn [] false w args/\laidMetH C.prog laid w)/\sizedMet enc C.prog fn (OpenSpec.ofChange s) false w args) (s.post enc C.prog fn false true false false):=by
 refine returnsInHanded_of_change_and (X:=λ w _=>laidMetH C.prog laid w) (λ _ _ _ hh h=>h.of_heap hh) own started aal hfn witness ?_;intro W base args ds gs before hval hW _ hwt hL _;have hW':=hW;obtain⟨p,q,hA,hV,rfl,hfz,nJ⟩:=hW
 have hlen:∀{ts:List TypeId}{vs:List R}{ds:List (DataW H)}{ps:List MemPlace},DataW.TrodAll enc C.prog W 0 (λ _=>true) true ts vs ds ps->ds.length=ts.length:=by
  intro ts;induction ts with
  |nil=>intro vs ds ps h;obtain⟨_,rfl,_⟩:=trodAll_nil h;rfl
  |cons t ts ih=>intro vs ds ps h;obtain⟨v,vs,d,ds,p,q,rfl,rfl,rfl,h1,h2⟩:=trodAll_cons h;simp[ih h2]
 have aim:∀{ts us:List TypeId}{ds gs:List (DataW H)},ds.length=ts.length->∀n∈DataW.weightsEach C.prog ts ds,n∈DataW.weightsEach C.prog (ts++us) (ds++gs):=by
  intro ts us ds gs;induction ts generalizing ds with
  |nil=>intro _ n hn;simp[DataW.weightsEach] at hn
  |cons t ts ih=>
   intro hl n hn;cases ds with
   |nil=>simp at hl
   |cons d ds=>
    simp only[eU,DataW.weightsEach,bV] at hn⊢;rcases hn with hn|hn
    · exact .inl hn
    · exact .inr (ih (by simpa using hl) n hn)
 have g:=CB (base:=base) hA (λ j t v ht hv'=>hval j t v (by simpa using ht) (by simpa using hv')) (λ n hn=>by have :=cY.1 hwt n (aim (hlen hA) n hn);simpa using this)
 refine(walk W args hL g).mono λ e W' ⟨he,hb⟩=>⟨_,he,?_⟩;exact RB hW' hv (hs ds (by rw[hlen hA];simp)) hres uG hl hr hb
theorem WM:rv prog 31 tFc:=OZ iu aV (Fg aJ aV)
theorem aam{w:agb}{cs:Array R}{y:Fc}(h:tFc.rd w w.heap.size cs.toList y):Value.agg cs=.agg (oI y).toArray/\y.length=10/\∀x∈y,fits x:=by obtain⟨h1,h2,h3⟩:=RL h;obtain⟨l⟩:=cs;simp only at h1;subst h1;exact⟨rfl,h2,h3⟩
theorem aeZ:rv prog 88 tRg:=abu underlying88 aV (.cons rfl (Fg aJ aV) (.one rfl (Fg aJ aV)))
theorem ae1:rv prog 90 nM:=OZ iW aV aeZ
theorem ae4:rv prog 44 (eF nM):=aco vq aV cj ae1
theorem ade:rv prog 46 RJ:=abu underlying46 aV (.cons rfl (Fg aJ aV) (.one rfl (Fg aJ aV)))
theorem ae5:rv prog 48 se:=abu underlying48 aV (.cons rfl (Fg aJ aV) (.cons rfl (aeo bn aV) (.cons rfl ae4 (.cons rfl (Fg aJ aV) (.cons rfl ade (.one rfl ade))))))
theorem aeD:rv prog 36 (eF se):=aco rq aV cj ae5
theorem aeG:rv prog 38 (eF se):=abu underlying38 aV (.one rfl aeD)
theorem afo{w:agb}{cs:Array R}{y:List Rl}(h:(eF se).rd w w.heap.size cs.toList y):∃A cap,Value.agg cs=.agg #[G A y.length cap]/\y.length<=cap/\cap<=maxLen/\ic se w A y:=by obtain⟨A,cap,e,h1,h2,h3⟩:=h;obtain⟨l⟩:=cs;simp only at e;subst e;exact⟨A,cap,rfl,h1,h2,h3⟩
end
section
open Go.RowKit
def qg(b:Nat):Int:=if(97<=b/\b<=122)\/(65<=b/\b<=90) then 3 else if 48<=b/\b<=57 then 4 else if b=32\/b=9\/b=10 then 1
 else if b=59\/b=44\/b=46\/b=58\/b=40\/b=41\/b=123\/b=125\/b=61\/b=43\/b=45\/b=47 then 6 else if b=60\/b=62 then 7 else 0
def ow(k:Nat):List Int:=(List.range 256).map λ i=>if i<k then qg i else 0
def lD(l:List Int):Array R:=(l.map (Value.int .u8)).toArray
theorem pG(k:Nat):(ow k).length=256:=by unfold ow;simp
theorem xP(l:List Int)(k:Nat)(c:Int):(lD l).setIfInBounds k (.int .u8 c)=lD (l.set k c):=by unfold lD;rw[dS,List.map_set]
theorem Fy{k:Nat}(hk:k<256):(ow k).set k (qg k)=ow (k+1):=by
 apply List.ext_getElem?
 intro i;rw[iV];unfold ow;by_cases e:k=i
 · subst e
   rw[if_pos rfl,if_pos (by simpa using hk)];simp[hk]
 · rw[if_neg e]
   by_cases hi:i<256
   · simp only[bQ,List.getElem?_range hi,ja]
     by_cases h:i<k
     · rw[if_pos h,if_pos ar]
     · rw[if_neg h,if_neg ar]
   · rw[cX gW,cX gW]
theorem Pd{k:Nat}(hk:k<256)(h:qg k=0):ow (k+1)=ow k:=by
 have h1:=Fy hk;rw[h] at h1;rw[<-h1];apply List.ext_getElem?
 intro i;rw[iV];by_cases e:k=i
 · subst e
   rw[if_pos rfl,if_pos (by rw[pG];exact hk)];unfold ow;simp[hk]
 · rw[if_neg e]
def sD:List Int:=(((ow 256).set 35 2).set 95 5).set 33 8
theorem RZ:∀k,k<256->(decide (0<=Lib.indexByte [32,9,10] (k:Nat).toUInt8)=decide (k=32\/k=9\/k=10)):=cj
theorem aan:∀k,k<256->(decide (0<=Lib.indexByte [59,44,46,58,40,41,123,125,61,43,45,47] (k:Nat).toUInt8)=decide (k=59\/k=44\/k=46\/k=58\/k=40\/k=41\/k=123\/k=125\/k=61\/k=43\/k=45\/k=47)):=cj
def WN(b:Nat):Int:=if b=35 then 2 else if b=95 then 5 else if b=33 then 8 else qg b
theorem WO{b:Nat}(hb:b<256):sD.getD b 0=WN b:=by
 unfold sD WN;rw[av,iV,iV,iV];simp only[mD,pG];by_cases h3:b=33
 · subst h3;rfl
 · rw[if_neg (ar:¬33=b)]
   by_cases h2:b=95
   · subst h2;rfl
   · rw[if_neg (ar:¬95=b)]
     by_cases h1:b=35
     · subst h1;rfl
     · rw[if_neg (ar:¬35=b),if_neg h1,if_neg h2,if_neg h3]
       unfold ow;rw[bQ,List.getElem?_range hb];simp only[ja,dD,if_pos hb]
def iQ(bs:BA0)(i:Nat):Int:=match bs.data[i]? with |some b=>WN b.toNat|none=>0
structure Tk where
 kind:Int
 s:Nat
 e:Nat
 n:Int
deriving Repr
def V0(c:Int):Bool:=c==3||c==4||c==5
def Tk.okB(bs:BA0)(t:Tk):Bool:=
 if t.kind=1 then decide (iQ bs t.s=3)&&(decide (∀x,x<t.e->t.s<=x->V0 (iQ bs x)=true)&&(decide (V0 (iQ bs t.e)=false)&&(decide (t.e<=t.s+24)&&decide (t.n=0))))
 else if t.kind=2 then decide (iQ bs t.s=4)&&(decide (∀x,x<t.e->t.s<=x->iQ bs x=4)&&(decide (V0 (iQ bs t.e)=false)&&(decide (t.e<=t.s+10)&&decide (Lib.atoi (bs.extract t.s t.e).data.toList=O t.n))))
 else decide (t.kind=3)&&(decide (t.n=0)&&(
  (decide (iQ bs t.s=6)&&decide (t.e=t.s+1))||
  (decide (iQ bs t.s=7)&&(decide (t.e=t.s+1)&&decide (bs.data[t.s+1]?≠O 61)))||
  (decide (iQ bs t.s=7)&&(decide (t.e=t.s+2)&&decide (bs.data[t.s+1]?=O 61)))))
def chainB(bs:BA0):Nat->List Tk->Bool
 |i,[]=>decide (i<=bs.size)&&decide (∀x,x<bs.size->i<=x->iQ bs x=1)
 |i,t::l=>decide (i<=t.s)&&(decide (∀x,x<t.s->i<=x->iQ bs x=1)&&(t.okB bs&&(decide (t.s<t.e)&&(decide (t.e<=bs.size)&&chainB bs t.e l))))
theorem R1{bs:BA0}:∀{i:Nat}{l:List Tk},chainB bs i l=true->i<=bs.size
 |i,[],h=>by simp only[chainB,aD,decide_eq_true_eq] at h;exact h.1
 |i,t::l,h=>by simp only[chainB,aD,decide_eq_true_eq] at h;omega
theorem LG{bs:BA0}{i:Nat}{t:Tk}{l:List Tk}(h:chainB bs i (t::l)=true):i<bs.size:=by simp only[chainB,aD,decide_eq_true_eq] at h;omega
theorem Pe{bs:BA0}{i:Nat}(h:chainB bs i []=true)(hi:i<bs.size):iQ bs i=1/\chainB bs (i+1) []=true:=by simp only[chainB,aD,decide_eq_true_eq] at h⊢;exact⟨h.2 i hi (ah _),ar,λ x hx h'=>h.2 x hx ar⟩
theorem Jl{bs:BA0}{i:Nat}{t:Tk}{l:List Tk}(h:chainB bs i (t::l)=true)(hi:i≠t.s):iQ bs i=1/\i<bs.size/\chainB bs (i+1) (t::l)=true:=by simp only[chainB,aD,decide_eq_true_eq] at h⊢;obtain⟨h1,h2,h3,h4,h5,h6⟩:=h;exact⟨h2 i ar (ah _),ar,ar,λ x hx h'=>h2 x hx ar,h3,h4,h5,h6⟩
theorem Pf{bs:BA0}{t:Tk}{l:List Tk}(h:chainB bs t.s (t::l)=true):t.okB bs=true/\t.s<t.e/\t.e<=bs.size/\chainB bs t.e l=true:=by simp only[chainB,aD,decide_eq_true_eq] at h;exact⟨h.2.2.1,h.2.2.2.1,h.2.2.2.2.1,h.2.2.2.2.2⟩
abbrev Tok:=Int×BA0×Int×Int
def Tk.tok(bs:BA0)(t:Tk):Tok:=(t.kind,bs.extract t.s t.e,t.n,(t.s:Int))
def sF:BA0:=⟨#[104,97,108,108,32,104,32,115,116,97,103,101,32,48,32,48,32,123,32,108,101,118,101,108,32,108,111,119,32,104,101,105,103,104,116,32,48,32,123,32,100,111,111,114,32,49,48,32,48,59,32,97,105,115,108,101,32,49,48,32,48,32,49,56,32,51,48,59,32,98,108,111,99,107,32,98,32,123,32,114,111,119,32,114,32,97,116,32,50,48,32,53,32,115,101,97,116,115,32,49,32,116,111,32,51,32,115,116,101,112,32,50,59,32,125,32,97,114,101,97,32,115,32,49,56,32,50,48,32,50,56,32,50,52,32,104,111,108,100,115,32,50,59,32,125,32,125]⟩
def R2:List Tk:=[⟨1,0,4,0⟩,⟨1,5,6,0⟩,⟨1,7,12,0⟩,⟨2,13,14,0⟩,⟨2,15,16,0⟩,⟨3,17,18,0⟩,⟨1,19,24,0⟩,⟨1,25,28,0⟩,⟨1,29,35,0⟩,⟨2,36,37,0⟩,⟨3,38,39,0⟩,⟨1,40,44,0⟩,⟨2,45,47,10⟩,⟨2,48,49,0⟩,⟨3,49,50,0⟩,⟨1,51,56,0⟩,⟨2,57,59,10⟩,⟨2,60,61,0⟩,⟨2,62,64,18⟩,⟨2,65,67,30⟩,⟨3,67,68,0⟩,⟨1,69,74,0⟩,⟨1,75,76,0⟩,⟨3,77,78,0⟩,⟨1,79,82,0⟩,⟨1,83,84,0⟩,⟨1,85,87,0⟩,⟨2,88,90,20⟩,⟨2,91,92,5⟩,⟨1,93,98,0⟩,⟨2,99,100,1⟩,⟨1,101,103,0⟩,⟨2,104,105,3⟩,⟨1,106,110,0⟩,⟨2,111,112,2⟩,⟨3,112,113,0⟩,⟨3,114,115,0⟩,⟨1,116,120,0⟩,⟨1,121,122,0⟩,⟨2,123,125,18⟩,⟨2,126,128,20⟩,⟨2,129,131,28⟩,⟨2,132,134,24⟩,⟨1,135,140,0⟩,⟨2,141,142,2⟩,⟨3,142,143,0⟩,⟨3,144,145,0⟩,⟨3,146,147,0⟩]
def yV:BA0:=⟨#[97,108,108,111,119,32,97,32,119,104,101,110,32,98,108,111,99,107,32,61,32,108,111,119,46,98,32,97,110,100,32,115,105,122,101,32,60,61,32,50,32,111,114,32,107,105,110,100,32,61,32,115,116,97,110,100,59,32,100,101,110,121,32,100,32,119,104,101,110,32,97,103,101,32,60,32,49,54,59,32,112,114,105,99,101,32,112,32,53,59,32,97,108,108,111,119,32,110,101,118,101,114,32,119,104,101,110,32,115,105,122,101,32,62,32,51,32,97,110,100,32,115,105,122,101,32,60,32,52,59]⟩
def R4:List Tk:=[⟨1,0,5,0⟩,⟨1,6,7,0⟩,⟨1,8,12,0⟩,⟨1,13,18,0⟩,⟨3,19,20,0⟩,⟨1,21,24,0⟩,⟨3,24,25,0⟩,⟨1,25,26,0⟩,⟨1,27,30,0⟩,⟨1,31,35,0⟩,⟨3,36,38,0⟩,⟨2,39,40,2⟩,⟨1,41,43,0⟩,⟨1,44,48,0⟩,⟨3,49,50,0⟩,⟨1,51,56,0⟩,⟨3,56,57,0⟩,⟨1,58,62,0⟩,⟨1,63,64,0⟩,⟨1,65,69,0⟩,⟨1,70,73,0⟩,⟨3,74,75,0⟩,⟨2,76,78,16⟩,⟨3,78,79,0⟩,⟨1,80,85,0⟩,⟨1,86,87,0⟩,⟨2,88,89,5⟩,⟨3,89,90,0⟩,⟨1,91,96,0⟩,⟨1,97,102,0⟩,⟨1,103,107,0⟩,⟨1,108,112,0⟩,⟨3,113,114,0⟩,⟨2,115,116,3⟩,⟨1,117,120,0⟩,⟨1,121,125,0⟩,⟨3,126,127,0⟩,⟨2,128,129,4⟩,⟨3,129,130,0⟩]
def dX:List Tok:=[(1,⟨#[104,97,108,108]⟩,0,0),(1,⟨#[104]⟩,0,5),(1,⟨#[115,116,97,103,101]⟩,0,7),(2,⟨#[48]⟩,0,13),(2,⟨#[48]⟩,0,15),(3,⟨#[123]⟩,0,17),(1,⟨#[108,101,118,101,108]⟩,0,19),(1,⟨#[108,111,119]⟩,0,25),(1,⟨#[104,101,105,103,104,116]⟩,0,29),(2,⟨#[48]⟩,0,36),(3,⟨#[123]⟩,0,38),(1,⟨#[100,111,111,114]⟩,0,40),(2,⟨#[49,48]⟩,10,45),(2,⟨#[48]⟩,0,48),(3,⟨#[59]⟩,0,49),(1,⟨#[97,105,115,108,101]⟩,0,51),(2,⟨#[49,48]⟩,10,57),(2,⟨#[48]⟩,0,60),(2,⟨#[49,56]⟩,18,62),(2,⟨#[51,48]⟩,30,65),(3,⟨#[59]⟩,0,67),(1,⟨#[98,108,111,99,107]⟩,0,69),(1,⟨#[98]⟩,0,75),(3,⟨#[123]⟩,0,77),(1,⟨#[114,111,119]⟩,0,79),(1,⟨#[114]⟩,0,83),(1,⟨#[97,116]⟩,0,85),(2,⟨#[50,48]⟩,20,88),(2,⟨#[53]⟩,5,91),(1,⟨#[115,101,97,116,115]⟩,0,93),(2,⟨#[49]⟩,1,99),(1,⟨#[116,111]⟩,0,101),(2,⟨#[51]⟩,3,104),(1,⟨#[115,116,101,112]⟩,0,106),(2,⟨#[50]⟩,2,111),(3,⟨#[59]⟩,0,112),(3,⟨#[125]⟩,0,114),(1,⟨#[97,114,101,97]⟩,0,116),(1,⟨#[115]⟩,0,121),(2,⟨#[49,56]⟩,18,123),(2,⟨#[50,48]⟩,20,126),(2,⟨#[50,56]⟩,28,129),(2,⟨#[50,52]⟩,24,132),(1,⟨#[104,111,108,100,115]⟩,0,135),(2,⟨#[50]⟩,2,141),(3,⟨#[59]⟩,0,142),(3,⟨#[125]⟩,0,144),(3,⟨#[125]⟩,0,146)]
def xQ:List Tok:=[(1,⟨#[97,108,108,111,119]⟩,0,0),(1,⟨#[97]⟩,0,6),(1,⟨#[119,104,101,110]⟩,0,8),(1,⟨#[98,108,111,99,107]⟩,0,13),(3,⟨#[61]⟩,0,19),(1,⟨#[108,111,119]⟩,0,21),(3,⟨#[46]⟩,0,24),(1,⟨#[98]⟩,0,25),(1,⟨#[97,110,100]⟩,0,27),(1,⟨#[115,105,122,101]⟩,0,31),(3,⟨#[60,61]⟩,0,36),(2,⟨#[50]⟩,2,39),(1,⟨#[111,114]⟩,0,41),(1,⟨#[107,105,110,100]⟩,0,44),(3,⟨#[61]⟩,0,49),(1,⟨#[115,116,97,110,100]⟩,0,51),(3,⟨#[59]⟩,0,56),(1,⟨#[100,101,110,121]⟩,0,58),(1,⟨#[100]⟩,0,63),(1,⟨#[119,104,101,110]⟩,0,65),(1,⟨#[97,103,101]⟩,0,70),(3,⟨#[60]⟩,0,74),(2,⟨#[49,54]⟩,16,76),(3,⟨#[59]⟩,0,78),(1,⟨#[112,114,105,99,101]⟩,0,80),(1,⟨#[112]⟩,0,86),(2,⟨#[53]⟩,5,88),(3,⟨#[59]⟩,0,89),(1,⟨#[97,108,108,111,119]⟩,0,91),(1,⟨#[110,101,118,101,114]⟩,0,97),(1,⟨#[119,104,101,110]⟩,0,103),(1,⟨#[115,105,122,101]⟩,0,108),(3,⟨#[62]⟩,0,113),(2,⟨#[51]⟩,3,115),(1,⟨#[97,110,100]⟩,0,117),(1,⟨#[115,105,122,101]⟩,0,121),(3,⟨#[60]⟩,0,126),(2,⟨#[52]⟩,4,128),(3,⟨#[59]⟩,0,129)]
theorem R5:R2.map (Tk.tok sF)=dX:=by decide+kernel
theorem R6:R4.map (Tk.tok yV)=xQ:=by decide+kernel
theorem LH:chainB sF 0 R2=true:=by decide+kernel
theorem LI:chainB yV 0 R4=true:=by decide+kernel
end
section
open Go.RowKit
attribute [local go_sem] aQ aC bW
abbrev Jq:Ty Tok:=fy dr (fy mY (fy dr dr))
structure oT(W:agb)(pb:Nat)(A:dB)(T:List Tok)(c k:Nat)(e:Int):Prop where
 blk:Bk W pb #[G A T.length c,I J k,I J e] 231
 tok:cG Jq W pb A T
 ne:∀g off,A=O ⟨g,off,U⟩->g<pb
 cap:T.length<=c
 few:T.length<=5000
theorem mL:Flat Jq:=rA iP (rA (λ h=>h) (rA iP iP))
section
variable{W W':agb}{pb:Nat}{A:dB}{T:List Tok}{c k:Nat}{e:Int}
theorem oT.lt(h:oT W pb A T c k e):pb<W.heap.size:=h.blk.lt
theorem oT.pick{i:Nat}(h:oT W pb A T c k e){kd n a:Int}{s:BA0}(hk:T[i]?=O (kd,s,n,a)):
 ∃b off,A=O ⟨b,off,U⟩/\b<pb/\W.cell? ⟨b,off+i*4,U⟩=O (I J kd)/\W.cell? ⟨b,off+i*4+1,U⟩=O (.string s)/\W.cell? ⟨b,off+i*4+2,U⟩=O (I J n)/\W.cell? ⟨b,off+i*4+3,U⟩=O (I J a)/\i<T.length:=by
 obtain⟨hl,hx⟩:=ai.1 hk;obtain⟨b,off,cs,hA,hb,hr,hc⟩:=h.tok i hl;rw[hx] at hr;obtain⟨_,_,rfl,⟨rfl,_⟩,_,_,rfl,⟨rfl,_⟩,_,_,rfl,⟨rfl,_⟩,⟨rfl,_⟩⟩:=hr;exact⟨b,off,hA,hb,hc 0 _ rfl,hc 1 _ rfl,hc 2 _ rfl,hc 3 _ rfl,hl⟩
theorem oT.only{S:Nat->Prop}(h:oT W pb A T c k e)(ho:Only S W W')(hp:¬S pb)(hn:∀g off,A=O ⟨g,off,.none⟩->¬S g):oT W' pb A T c k e:=
 ⟨h.blk.only ho hp,h.tok.only mL ho (gS h.lt) hn,h.ne,h.cap,h.few⟩
theorem oT.below{B:Nat}(h:oT W pb A T c k e)(hb:Below B W W')(hB:pb<B)(V1:B<=W.heap.size):oT W' pb A T c k e:=⟨(hb.block pb hB).trans h.blk,h.tok.keep (hb.mono (gS hB)) (ah _),h.ne,h.cap,h.few⟩
theorem oT.step(h:oT W pb A T c k e):oT (W.setCell ⟨pb,1,U⟩ (I J ((k+1:Nat):Int))) pb A T c (k+1) e/\Only (λ g=>g=pb) W (W.setCell ⟨pb,1,U⟩ (I J ((k+1:Nat):Int))):=by have ho:Only (λ g=>g=pb) W (W.setCell ⟨pb,1,U⟩ (I J ((k+1:Nat):Int))):=(Only.refl (λ g=>g=pb) W).aS (p:=⟨pb,1,U⟩) (.inl rfl) _;exact⟨⟨h.blk.aS 1 _,h.tok.only mL ho (gS h.lt) (λ g off hg e=>by have :=h.ne g off hg;omega),h.ne,h.cap,h.few⟩,ho⟩
theorem oT.aS(h:oT W pb A T c k e){hb:Nat}(h1:hb≠pb)(h4:∀g off,A=O ⟨g,off,U⟩->g≠hb)(o:Nat)(v:R):oT (W.setCell ⟨hb,o,U⟩ v) pb A T c k e:=
 h.only (S:=λ g=>g=hb) ((Only.refl (λ g=>g=hb) W).aS (p:=⟨hb,o,U⟩) (.inl rfl) v) (λ q=>h1 q.symm) h4
theorem oT.grow(h:oT W pb A T c k e)(hb:aZ W W'):oT W' pb A T c k e:=h.below hb h.lt (ah _)
end
theorem oT.next{W X:agb}{pb:Nat}{A:dB}{T:List Tok}{c k:Nat}{e:Int}(h:oT W pb A T c k e)(hb:aZ W X):
 oT (X.setCell ⟨pb,1,U⟩ (I J ((k:Int)+1))) pb A T c (k+1) e/\Only (λ g=>g=pb) W (X.setCell ⟨pb,1,U⟩ (I J ((k:Int)+1))):=by
 have hs:=(h.below hb h.lt (ah _)).step;exact⟨hs.1,(aw hb).trans hs.2⟩
theorem pJ(W:agb)(pb:Nat)(A:dB)(T:List Tok)(c k:Nat)(e kd n a:Int)(s:BA0)(h:oT W pb A T c k e)(hk:T[k]?=O (kd,s,n,a)):
 Calls prog 108 #[M (O ⟨pb,0,U⟩),I J kd] W λ r W'=>r=.returned (.agg #[I J kd,.string s,I J n,I J a])/\oT W' pb A T c (k+1) e/\Only (λ g=>g=pb) W W':=by
 obtain⟨b,off,rfl,hb,d0,d1,d2,d3,kq⟩:=h.pick hk;have c0:=h.blk.cell 0;have c1:=h.blk.cell 1;have f1:=h.blk.free 1;have lp:=h.lt;have lc:=h.cap;have lf:=h.few;have lb:b<W.heap.size:=ar;have Ny:(k:Int)<(T.length:Int):=ar;have hne:((k:Int)==(T.length:Int))=false:=by simp;omega
 have HH:=dt h hk;clear h hk;go_enter func108,ntmps108;go_upto_region 1 with fail;refine bJ _ aV aV ?_;repeat(go_big_quiet_step (fail))
 refine wpQuiet_nil (λ v=>?_);go_upto_region 4 with fail
 have hY:(∀X,X=(ext (W.alloc (D #[I J 0,.string ⟨#[]⟩,I J 0,I J 0] 234)) v).setCell ⟨pb,1,U⟩ (I J ((k:Int)+1))->(oT X pb (O ⟨b,off,U⟩) T c (k+1) e/\Only (λ g=>g=pb) W X)/\Bk X W.heap.size #[I J 0,.string ⟨#[]⟩,I J 0,I J 0] 234):=by rintro X rfl;exact⟨HH.q1.next dE,((Bk.new W _ _).ext _).far (by show W.heap.size≠pb;omega) _⟩
 refine forget (λ X=>(oT X pb (O ⟨b,off,U⟩) T c (k+1) e/\Only (λ g=>g=pb) W X)/\Bk X W.heap.size #[I J 0,.string ⟨#[]⟩,I J 0,I J 0] 234) (hY _ rfl) ?_;clear hY d0 d1 d2 d3 c0 c1 f1 lb;clear v;rintro X ⟨⟨h,ho⟩,hr⟩;obtain⟨b',off',e',hb',d0,d1,d2,d3,_⟩:=h.pick HH.t1;cases e'
 have c0:=h.blk.cell 0;have c1:=h.blk.cell 1;have lp':=h.lt;have lr:=hr.lt;have fr:=hr.free;have r0:=hr.cell 0;have r1:=hr.cell 1;have r2:=hr.cell 2;have r3:=hr.cell 3;have lb:b<X.heap.size:=ar;have hm:((k+1:Nat):Int)- 1=(k:Int):=ar;have HX:=fH h ho hr;clear h ho hr;refine mF 11 aV aV ?_;simp only[fU,List.take_zero,List.drop_succ_cons,List.drop_zero];repeat(go_big_quiet_step (fail))
 refine wpQuiet_nil ?_;go_wp2_with fail;have hb4:=(((HX.t2.drew.aS 0 (I J kd)).aS 1 (.string s)).aS 2 (I J n)).aS 3 (I J a);refine bodyPost_ret (gD (p:=⟨W.heap.size,0,U⟩) rfl rfl (hb4.load underlying234 rfl aV)) rfl ⟨rfl,?_⟩
 have ho:Only (λ g=>g=W.heap.size) X ((((X.drew.setCell ⟨W.heap.size,0,U⟩ (I J kd)).setCell ⟨W.heap.size,1,U⟩ (.string s)).setCell ⟨W.heap.size,2,U⟩ (I J n)).setCell ⟨W.heap.size,3,U⟩ (I J a)):=by refine(((((Only.refl _ X).drew.aS (.inl ?_) _).aS (.inl ?_) _).aS (.inl ?_) _).aS (.inl ?_) _)<;>rfl
 exact⟨HX.q1.only ho ar (λ g off hg e=>by cases hg;omega),HX.q2.trans' ho (λ g hg=>.inr ar)⟩
def NL(pb:Nat)(A:dB)(T:List Tok)(c k:Nat)(e:Int)(W W':agb):Prop:=oT W' pb A T c k e/\Only (λ g=>g=pb) W W'
theorem kC(kd n a:Int)(s:BA0)(w:agb):(Instr.field 234 (.agg #[I J kd,.string s,I J n,I J a]) 1).run prog w=.ok (.string s) w:=aV
theorem kD(kd n a:Int)(s:BA0)(w:agb):(Instr.field 234 (.agg #[I J kd,.string s,I J n,I J a]) 2).run prog w=.ok (I J n) w:=aV
theorem GR(W:agb)(pb:Nat)(A:dB)(T:List Tok)(c k:Nat)(e kd n a:Int)(s:BA0)(h:oT W pb A T c k e)(hk:T[k]?=O (kd,s,n,a))(h2:(kd==2)=false):
 Calls prog 110 #[M (O ⟨pb,0,U⟩),.string s] W λ r W'=>r=.returned (.bool true)/\NL pb A T c (k+1) e W W':=by
 obtain⟨b,off,rfl,hb,d0,d1,d2,d3,kq⟩:=h.pick hk;have c0:=h.blk.cell 0;have c1:=h.blk.cell 1;have f1:=h.blk.free 1;have lp:=h.lt;have lc:=h.cap;have lf:=h.few;have lb:b<W.heap.size:=ar;have Ny:(k:Int)<(T.length:Int):=ar;have hne:((k:Int)==(T.length:Int))=false:=by simp;omega
 have HH:=aG h;clear h hk;go_enter func110,ntmps110;go_upto_region 1 with fail;refine bJ _ aV aV ?_;repeat(go_big_quiet_step (fail))
 refine wpQuiet_nil (λ v=>?_);go_wp2_with fail;go_ret;exact⟨rfl,HH.o.next (aT W v)⟩
theorem FC(W:agb)(pb:Nat)(A:dB)(T:List Tok)(c k:Nat)(e kd n a:Int)(s s':BA0)(h:oT W pb A T c k e)(hk:T[k]?=O (kd,s',n,a))(h2:(kd==2)=false)(hs0:(s'.data.toList==s.data.toList)=false):
 Calls prog 110 #[M (O ⟨pb,0,U⟩),.string s] W λ r W'=>r=.returned (.bool false)/\aZ W W':=by
 obtain⟨b,off,rfl,hb,d0,d1,d2,d3,kq⟩:=h.pick hk;have c0:=h.blk.cell 0;have c1:=h.blk.cell 1;have lp:=h.lt;have lc:=h.cap;have lf:=h.few;have lb:b<W.heap.size:=ar;have Ny:(k:Int)<(T.length:Int):=ar;have hne:((k:Int)==(T.length:Int))=false:=by simp;omega
 have hs:(s'.toList==s.toList)=false:=by rw[ByteArray.toList_eq,ByteArray.toList_eq];exact hs0
 clear h hk;go_enter func110,ntmps110;go_upto_region 1 with fail;refine bJ _ aV aV ?_;repeat(go_big_quiet_step (fail))
 refine wpQuiet_nil (λ v=>?_);go_wp2_with fail;go_ret;exact⟨rfl,aT W v⟩
theorem jG(W:agb)(pb:Nat)(A:dB)(T:List Tok)(c k:Nat)(e kd n a:Int)(s:BA0)(h:oT W pb A T c k e)(hk:T[k]?=O (kd,s,n,a))(h2:(kd==2)=false):
 Calls prog 107 #[M (O ⟨pb,0,U⟩),.string s] W λ r W'=>(∃v,r=.returned v)/\NL pb A T c (k+1) e W W':=by
 have HC:=aG (GR W pb A T c k e kd n a s h hk h2);clear h hk h2;go_enter func107,ntmps107;go_wp2_with (go_at_call 110;refine HC.o.mono ?_;rintro r W' ⟨rfl,hg⟩;have HG:=aG hg;clear hg);go_end0;exact⟨⟨_,rfl⟩,HG.o⟩
theorem yX(W:agb)(pb:Nat)(A:dB)(T:List Tok)(c k:Nat)(e kd n a:Int)(s:BA0)(h:oT W pb A T c k e)(hk:T[k]?=O (kd,s,n,a)):
 Calls prog 174 #[M (O ⟨pb,0,U⟩)] W λ r W'=>r=.returned (I J a)/\aZ W W':=by
 obtain⟨b,off,rfl,hb,d0,d1,d2,d3,kq⟩:=h.pick hk;have c0:=h.blk.cell 0;have c1:=h.blk.cell 1;have lp:=h.lt;have lc:=h.cap;have lf:=h.few;have lb:b<W.heap.size:=ar;have Ny:(k:Int)<(T.length:Int):=ar;have hne:((k:Int)==(T.length:Int))=false:=by simp;omega
 clear h hk;go_enter func174,ntmps174;go_upto_region 1 with fail;refine bJ _ aV aV ?_;repeat(go_big_quiet_step (fail))
 refine wpQuiet_nil (λ v=>?_);go_upto_region 3 with fail;refine bJ _ aV aV ?_;repeat(go_big_quiet_step (fail))
 refine wpQuiet_nil (λ v2=>?_);go_wp2_with fail;go_ret;exact⟨rfl,aq (aT W v) (aT _ v2)⟩
end
section
open Go.RowKit
attribute [local go_sem] aQ aC bW kC kD
def tq:Array R->List (Nat×Int)->Array R
 |C,[]=>C
 |C,p::l=>tq (C.setIfInBounds p.1 (I J p.2)) l
theorem xU:∀(l m:List (Nat×Int))(C:Array R),tq C (l++m)=tq (tq C l) m
 |[],_,_=>rfl
 |p::l,m,C=>xU l m _
theorem C3:∀(l:List (Nat×Int))(C:Array R),(tq C l).size=C.size
 |[],_=>rfl
 |p::l,C=>by
  show(tq _ l).size=_;rw[C3 l,Array.size_setIfInBounds]
theorem LK{ps:List (Nat×Int)}{j o:Nat}{x:Int}(h:ps[j]?=O (o,x))(C:Array R):tq C (ps.take (j+1))=(tq C (ps.take j)).setIfInBounds o (I J x):=by rw[bu,xU,h];rfl
theorem GS(W:agb)(pb:Nat)(A:dB)(T:List Tok)(c k:Nat)(e:Int)(h:oT W pb A T c k e)(hb t:Nat)(C:Array R)(sb so cap m:Nat)(ps:List (Nat×Int))(hH:Bk W hb C t)(hm:ps.length=m)
 (hT:∀(i o:Nat)(x:Int),ps[i]?=O (o,x)->o<C.size/\W.cell? ⟨sb,so+i,U⟩=O (M (O ⟨hb,o,U⟩))/\∃s a,T[k+i]?=O (2,s,x,a))
 (h1:hb≠pb)(h2:sb≠pb)(h3:sb≠hb)(h4:∀g off,A=O ⟨g,off,U⟩->g≠hb)(h5:sb<W.heap.size)(h6:m<=cap)(h7:m<=100):
 Calls prog 109 #[M (O ⟨pb,0,U⟩),G (O ⟨sb,so,U⟩) m cap] W λ r W'=>(∃v,r=.returned v)/\oT W' pb A T c (k+m) e/\Bk W' hb (tq C ps) t/\Only (λ g=>g=pb\/g=hb) W W':=by
 subst hm;have HH:=fH h hH hT;clear h hH hT;go_enter func109,ntmps109;go_wp2_with fail;go_loopw [8] (λ i wr=>∃j:Nat,j<=ps.length/\i=I J j/\oT wr pb A T c (k+j) e/\Bk wr hb (tq C (ps.take j)) t/\Only (λ g=>g=pb\/g=hb) W wr) (λ i _=>ps.length - (intOf i).toNat)
 case atStart=>exact⟨0,ar,rfl,HH.q1,HH.q2,Only.refl _ _⟩
 case round=>
  obtain⟨j,hj,rfl,hP,hB,hO⟩:=hrel;generalize wr=wA at *;have hz:=hO.size;by_cases hlt:j<ps.length
  · have rE:(j:Int)<(ps.length:Int):=ar
    obtain⟨⟨o,x⟩,hx⟩:∃p,ps[j]?=O p:=⟨_,af hlt⟩;obtain⟨ho,hc,s,a,ht⟩:=HH.t2 j o x hx
    have hc':wA.cell? ⟨sb,so+j,U⟩=O (M (O ⟨hb,o,U⟩)):=by rw[<-hc];unfold World.cell?;rw[hO.block sb h5 (by rintro(q|q)<;>omega)]
    have ls:sb<wA.heap.size:=ar;have HT:=pJ wA pb A T c (k+j) e 2 x a s hP ht;have HR:=lQ HT hB hO hx ho;clear HT hP hB hO hc ho hx ht;go_wp2_with (go_at_call 108;refine HR.q1.mono ?_;rintro r X ⟨rfl,hX,hXo⟩;have Sb:=HR.q2.only hXo h1;obtain⟨v,hv⟩:∃v,(tq C (ps.take j))[o]?=O v:=⟨_,cP (by rw[C3];exact HR.t4)⟩;have hcx:X.cell? ⟨hb,o,U⟩=O v:=(Sb.cell o).trans hv;have hfx:=Sb.free o;have HX:=fH hX hXo Sb;clear hX hXo Sb hv);go_roundw
    case rel=>
     refine⟨j+1,ar,gC,?_,?_,?_⟩
     · exact HX.q1.aS h1 h4 _ _
     · rw[LK HR.q4]
       exact HX.t2.aS o _
     · exact(HR.q3.trans (HX.q2.mono λ g hg=>.inl hg)).aS (p:=⟨hb,o,U⟩) (.inl (.inr rfl)) _
    case measure=>simp[intOf];omega
  · obtain rfl:j=ps.length:=ar
    have HR:=fH hP hB hO;clear hP hB hO;go_wp2_with fail;go_end0;have :=HR.o;rw[aX] at this;exact⟨⟨_,rfl⟩,this⟩
def C4(T:List Tok)(m:Nat):Nat->List (Nat×Int)->Bool
 |_,[]=>true
 |k,p::l=>decide (p.1<m)&&((match T[k]? with |some t=>t.1==2&&t.2.2.1==p.2|none=>false)&&C4 T m (k+1) l)
theorem Jr{T:List Tok}{m:Nat}:∀{k:Nat}{l:List (Nat×Int)},C4 T m k l=true->∀(i o:Nat)(x:Int),l[i]?=O (o,x)->o<m/\∃s a,T[k+i]?=O (2,s,x,a)
 |_,[],_,_,_,_,h=>by simp at h
 |k,p::l,h,i,o,x,hi=>by
  simp only[C4,aD,decide_eq_true_eq] at h;cases i with
  |zero=>
   obtain rfl:p=(o,x):=by simpa using hi
   refine⟨h.1,?_⟩;have h2:=h.2.1;cases ht:T[k]? with
   |none=>rw[ht] at h2;cases h2
   |some t=>
    obtain⟨kd,s,y,a⟩:=t;rw[ht] at h2;simp only[aD,beq_iff_eq] at h2;obtain⟨rfl,rfl⟩:=h2;exact⟨s,a,rfl⟩
  |succ i=>
   have :=Jr h.2.2 i o x (by simpa using hi);rw[show k+(i+1)=k+1+i from ar];exact this
theorem mM{W:agb}{pb:Nat}{A:dB}{T:List Tok}{c k:Nat}{e:Int}(h:oT W pb A T c k e){hb t t':Nat}{C:Array R}(ps:List (Nat×Int))(m:Nat)(hH:Bk W hb C t)
 (hn:C4 T C.size k ps=true)(h1:hb≠pb)(h4:∀g off,A=O ⟨g,off,U⟩->g≠hb)(hm:ps.length=m)(h7:m<=100){gs:Nat}(hgs:W.heap.size=gs):
 Calls prog 109 #[M (O ⟨pb,0,U⟩),G (O ⟨gs,0,U⟩) m m] (W.alloc (D (ps.map λ p=>M (O ⟨hb,p.1,U⟩)).toArray t')) λ r W'=>(∃v,r=.returned v)/\oT W' pb A T c (k+m) e/\Bk W' hb (tq C ps) t/\Only (λ g=>g=pb\/g=hb) W W':=by
 subst hm;subst hgs;have hlt:=h.lt;have xV:=hH.lt;have hbe:aZ W (W.alloc (D (ps.map λ p=>M (O ⟨hb,p.1,U⟩)).toArray t')):=aj _ _;have AX:=Bk.new W (ps.map λ p=>M (O ⟨hb,p.1,U⟩)).toArray t';refine(GS _ pb A T c k e (h.grow hbe) hb t C W.heap.size 0 ps.length ps.length ps (hH.below hbe) rfl (λ i o x hi=>?_) h1 ar ar h4 bY (ah _) h7).mono ?_
 · obtain⟨a1,a2⟩:=Jr hn i o x hi
   refine⟨a1,?_,a2⟩;rw[bX,AX.cell];simp[hi]
 · rintro r W' ⟨hv,a1,a2,a3⟩
   exact⟨hv,a1,a2,(aw hbe).trans a3⟩
theorem jr{w:agb}{base b2:Nat}{e:TypeId}{size:Nat}{v:R}{n:Nat}{xs:List R}(h:w.ownsRow base e size v n xs)(hb:b2<=base):w.ownsRow b2 e size v n xs:=by refine⟨h.1,h.2.imp id ?_⟩;rintro⟨g,cap,cur,rfl,h1,h2,h3⟩;exact⟨g,cap,cur,rfl,ar,h2,h3⟩
section
variable{P:Program}
theorem mh{ops:Array Oper}{rest:List Oper}{o:Oper}{a:Act}{w:agb}{Q:lC}(hgd:o.guard=U)(s x:Operand)(t:TypeId)
 (ho:o.op=.call {callee:=.builtin .append,args:=#[s,x],argTypes:=#[t,t]})(e bytes:Nat)(C:Array R)(ht:P.underlying t=O (.slice e))
 (hi:(P.info? e).map (λ i=>(i.zero.map (·.cells.size),i.size,i.bytes))=O (O C.size,C.size,bytes))(hsz:0<C.size)
 (hs:a.eval s=G U 0 0)(g:Nat)(hx:a.eval x=G (O ⟨g,0,U⟩) 1 1){e':TypeId}(hB:Bk w g C e')(h1:C.all (·.oneCell')=true)(hby:bytes<=140737488355328)
 (h:∀A' c' w',w'.ownsRow w.heap.size e C.size (G A' 1 c') 1 C.toList->aZ w w'->wpList P ops Q rest (a.put o.dst (G A' 1 c')) w'):wpList P ops Q (o::rest) a w:=by
 cases hq:P.info? e with
 |none=>rw[hq] at hi;cases hi
 |some i=>
  rw[hq] at hi;simp only[ja,cQ,Prod.mk.injEq] at hi;obtain⟨hz,h2,h3⟩:=hi;cases hzz:i.zero with
  |none=>rw[hzz] at hz;cases hz
  |some z=>
   rw[hzz] at hz;refine iG hgd s x t ho w.heap.size e i z C.size bytes ht hq hzz h2 h3 (aO hz) hsz 0 [] hs uK (O ⟨g,0,U⟩) 1 1 C.toList hx bY ?_ (λ u hu=>(dJ.1 h1) u (by simpa using hu)) (by unfold maxLen;omega) ar (ah _) 1 C.toList rfl bY (λ A' c' w' q1 q2 q3 q4=>h A' c' w' q1 q2);have :=gL hB 1;simpa using this
end
theorem NM(W:agb)(pb:Nat)(A:dB)(T:List Tok)(c k:Nat)(e x y x2 y2:Int)(h:oT W pb A T c k e)(hn:C4 T 4 k [(0,x),(1,y),(2,x2),(3,y2)]=true):
 Calls prog 205 #[M (O ⟨pb,0,U⟩)] W λ r W'=>r=.returned (.agg #[I J x,I J y,I J x2,I J y2])/\NL pb A T c (k+4) e W W':=by
 have lp:=h.lt;have hA:=h.ne;have HS:=aG h;clear h;go_enter func205,ntmps205;go_upto_region 2 with(go_at_call 109;go_loud (refine(mM (HS.o.grow (aj _ _)) (hb:=W.heap.size) [(0,x),(1,y),(2,x2),(3,y2)] 4 (Bk.new _ _ _) (by exact hn) ar (λ g off q=>by have :=hA g off q;omega) rfl ar bY).mono ?_);rintro r X ⟨⟨v,rfl⟩,hg⟩;have HX:=aG hg;clear hg);have hB:Bk X W.heap.size #[I J x,I J y,I J x2,I J y2] 169:=HX.q2;have hc:=hB.cell;have hf:=hB.free;have hl:=hB.lt;have HB:=aG hB;clear hB;go_wp2_with fail;have hb4:=(((HB.o.aS 0 (I J x)).aS 1 (I J y)).aS 2 (I J x2)).aS 3 (I J y2)
 have ho:Only (λ g=>g=W.heap.size) X ((((X.setCell ⟨W.heap.size,0,U⟩ (I J x)).setCell ⟨W.heap.size,1,U⟩ (I J y)).setCell ⟨W.heap.size,2,U⟩ (I J x2)).setCell ⟨W.heap.size,3,U⟩ (I J y2)):=by refine(((((Only.refl _ X).aS (.inl ?_) _).aS (.inl ?_) _).aS (.inl ?_) _).aS (.inl ?_) _)<;>rfl
 refine bodyPost_ret (gD (p:=⟨W.heap.size,0,U⟩) rfl rfl (hb4.load underlying169 rfl aV)) rfl ⟨rfl,HX.q1.only ho ar (λ g off q=>by have :=hA g off q;omega),?_⟩;exact((aw (S:=λ g=>g=pb) (aj W _)).trans' HX.t2 (λ g hg=>hg.imp id (by rintro rfl;simp))).trans' ho (λ g hg=>.inr ar)
theorem fV{w X X':agb}{g0:Nat}(h:aZ w X)(ho:Only (λ g=>g=g0) X X')(hg:w.heap.size<=g0):aZ w X':=
 h.trans (ho.aK (λ g e=>ar) h.size)
theorem WR(W:agb)(pb:Nat)(A:dB)(T:List Tok)(c k:Nat)(e kd n a:Int)(s:BA0)(h:oT W pb A T c k e)(hk:T[k]?=O (kd,s,n,a))(h2:kd≠1):
 Calls prog 229 #[M (O ⟨pb,0,U⟩)] W λ r W'=>r=.returned (.tuple #[.agg #[I J 0,I J 0,I J 0],.bool false])/\aZ W W':=by
 have qf:= @run_makeMap prog;have HS:=dt h hk
 have H0:Hid (cS ((W.alloc (D #[I J 0,I J 0,I J 0] 253)).alloc (.map #[] 0)) (W.heap.size+1) []/\aZ W ((W.alloc (D #[I J 0,I J 0,I J 0] 253)).alloc (.map #[] 0))/\Bk ((W.alloc (D #[I J 0,I J 0,I J 0] 253)).alloc (.map #[] 0)) W.heap.size #[I J 0,I J 0,I J 0] 253):=
  aG ⟨by have :=cS.new (W.alloc (D #[I J 0,I J 0,I J 0] 253));simpa using this,dE,(Bk.new W _ _).alloc _⟩
 clear h hk;go_enter func229,ntmps229
 go_upto_region 2 with(first
  |(refine eH rfl _ _ _ _ rfl 9 3 bC bn rfl H0.q1 ⟨#[103,97,112]⟩ rfl rfl (I J 1) rfl ?_;intro wC hC oC;replace H0:=fH hC (fV H0.q2 oC ar) (H0.t2.only oC ar);clear hC oC)
  |(refine eH rfl _ _ _ _ rfl 9 3 bC bn rfl H0.q1 ⟨#[119,104,101,101,108]⟩ rfl rfl (I J 2) rfl ?_;intro wC hC oC;replace H0:=fH hC (fV H0.q2 oC ar) (H0.t2.only oC ar);clear hC oC)
  |(refine eH rfl _ _ _ _ rfl 9 3 bC bn rfl H0.q1 ⟨#[104,105,100,100,101,110]⟩ rfl rfl (I J 3) rfl ?_;intro wC hC oC;replace H0:=fH hC (fV H0.q2 oC ar) (H0.t2.only oC ar);clear hC oC)
  |(refine eH rfl _ _ _ _ rfl 9 3 bC bn rfl H0.q1 ⟨#[98,101,115,105,100,101]⟩ rfl rfl (I J 4) rfl ?_;intro wC hC oC;replace H0:=fH hC (fV H0.q2 oC ar) (H0.t2.only oC ar);clear hC oC))
 obtain⟨h,hk⟩:=HS.o;have hw:=H0.q2;refine forget (λ X=>aZ W X/\Bk X W.heap.size #[I J 0,I J 0,I J 0] 253) ⟨hw,H0.t2⟩ ?_;clear hw H0 qf;rintro X ⟨hX,hB⟩;have hP:=h.grow hX;obtain⟨b,off,rfl,hb,d0,d1,d2,d3,kq⟩:=hP.pick hk;have c0:=hP.blk.cell 0;have c1:=hP.blk.cell 1;have lp:=hP.lt;have lc:=h.cap;have lf:=h.few;have lb:b<X.heap.size:=ar;have cB:=hB.cell;have fB:=hB.free;have lB:=hB.lt;have Ny:(k:Int)<(T.length:Int):=ar;have hne:((k:Int)==(T.length:Int))=false:=by simp;omega
 have Js:(kd==1)=false:=by simpa using h2
 have HX:=dt hX hB;clear hX hB hP h hk h2;refine bJ X aV aV ?_;repeat(go_big_quiet_step (fail))
 refine wpQuiet_nil (λ v=>?_);go_wp2_with fail;have hb3:=(((HX.t1.ext v).aS 0 (I J 0)).aS 1 (I J 0)).aS 2 (I J 0)
 have ho:Only (λ g=>g=W.heap.size) X ((((ext X v).setCell ⟨W.heap.size,0,U⟩ (I J 0)).setCell ⟨W.heap.size,1,U⟩ (I J 0)).setCell ⟨W.heap.size,2,U⟩ (I J 0)):=by refine((((Only.refl _ X).jN v).aS (.inl ?_) _).aS (.inl ?_) _).aS (.inl ?_) _<;>rfl
 refine bodyPost_ret (Jm rfl rfl (hb3.load underlying253 rfl aV)) rfl ⟨rfl,fV HX.q1 ho (ah _)⟩
structure pK(W:agb)(pb b:Nat)(T:List Tok)(c k:Nat)(e:Int):Prop where
 blk:∃off,Bk W pb #[G (O ⟨b,off,U⟩) (T.length - k) (c - k),I J e] 184/\(k<T.length->off=k*4)
 tok:cG Jq W pb (O ⟨b,0,U⟩) T
 lo:b<pb
 cap:T.length<=c
 few:T.length<=5000
section
variable{W W':agb}{pb b:Nat}{T:List Tok}{c k:Nat}{e:Int}
theorem pK.lt(h:pK W pb b T c k e):pb<W.heap.size:=by obtain⟨_,h,_⟩:=h.blk;exact h.lt
theorem pK.pick(h:pK W pb b T c k e){kd n a:Int}{s:BA0}(hk:T[k]?=O (kd,s,n,a)):
 Bk W pb #[G (O ⟨b,k*4,U⟩) (T.length - k) (c - k),I J e] 184/\W.cell? ⟨b,k*4,U⟩=O (I J kd)/\W.cell? ⟨b,k*4+1,U⟩=O (.string s)/\W.cell? ⟨b,k*4+2,U⟩=O (I J n)/\W.cell? ⟨b,k*4+3,U⟩=O (I J a)/\k<T.length:=by
 obtain⟨hl,hx⟩:=ai.1 hk;obtain⟨off,hb,ho⟩:=h.blk;cases ho hl
 obtain⟨b',off',cs,hA,hb',hr,hc⟩:=h.tok k hl;cases hA
 rw[hx] at hr;obtain⟨_,_,rfl,⟨rfl,_⟩,_,_,rfl,⟨rfl,_⟩,_,_,rfl,⟨rfl,_⟩,⟨rfl,_⟩⟩:=hr;have c0:=hc 0 _ rfl;have c1:=hc 1 _ rfl;have c2:=hc 2 _ rfl;have c3:=hc 3 _ rfl;simp only[bX,Nat.add_zero] at c0 c1 c2 c3;exact⟨hb,c0,c1,c2,c3,hl⟩
theorem pK.only{S:Nat->Prop}(h:pK W pb b T c k e)(ho:Only S W W')(hp:¬S pb)(hn:¬S b):pK W' pb b T c k e:=by obtain⟨off,hb,hf⟩:=h.blk;exact⟨⟨off,hb.only ho hp,hf⟩,h.tok.only mL ho (gS h.lt) (λ g o q=>by cases q;exact hn),h.lo,h.cap,h.few⟩
theorem pK.below{B:Nat}(h:pK W pb b T c k e)(hb:Below B W W')(hB:pb<B)(V1:B<=W.heap.size):pK W' pb b T c k e:=by obtain⟨off,hk,hf⟩:=h.blk;exact⟨⟨off,(hb.block pb hB).trans hk,hf⟩,h.tok.keep (hb.mono (gS hB)) (ah _),h.lo,h.cap,h.few⟩
theorem pK.grow(h:pK W pb b T c k e)(hb:aZ W W'):pK W' pb b T c k e:=h.below hb h.lt (ah _)
theorem pK.step(h:pK W pb b T c k e)(hk:k<T.length){n' c':Nat}{A:dB}(hA:A=if c - k=1 then O ⟨b,k*4,U⟩ else O ⟨b,k*4+4,U⟩)(hn:n'=T.length - (k+1))(hc:c'=c - (k+1)):
 pK (W.setCell ⟨pb,0,U⟩ (G A n' c')) pb b T c (k+1) e/\Only (λ g=>g=pb) W (W.setCell ⟨pb,0,U⟩ (G A n' c')):=by
 have ho:Only (λ g=>g=pb) W (W.setCell ⟨pb,0,U⟩ (G A n' c')):=(Only.refl (λ g=>g=pb) W).aS (p:=⟨pb,0,U⟩) (.inl rfl) _;subst hn hc;obtain⟨off,hb,hf⟩:=h.blk;have u6:=h.cap;have nA:=h.lo;refine⟨⟨⟨if c - k=1 then k*4 else k*4+4,?_,?_⟩,h.tok.only mL ho (gS h.lt) (λ g o q r=>by cases q;omega),h.lo,h.cap,h.few⟩,ho⟩
 · have :=hb.aS 0 (G A (T.length - (k+1)) (c - (k+1)))
   have e':A=O ⟨b,if c - k=1 then k*4 else k*4+4,U⟩:=by rw[hA];split<;>rfl
   rw[e'] at this⊢;exact this
 · intro q
   rw[if_neg ar];omega
end
def wZ(pb b:Nat)(T:List Tok)(c k:Nat)(e:Int)(W W':agb):Prop:=pK W' pb b T c k e/\Only (λ g=>g=pb) W W'
theorem xW(W:agb)(pb b:Nat)(T:List Tok)(c k:Nat)(e kd n a:Int)(s:BA0)(h:pK W pb b T c k e)(hk:T[k]?=O (kd,s,n,a)):
 Calls prog 150 #[M (O ⟨pb,0,U⟩),I J kd,G U 0 0] W λ r W'=>r=.returned (.bool true)/\aZ W W':=by
 obtain⟨hb,d0,d1,d2,d3,kq⟩:=h.pick hk;have c0:=hb.cell 0;have lp:=h.lt;have lc:=h.cap;have lf:=h.few;have lb:b<W.heap.size:=by have :=h.lo;omega
 have hne:(((T.length - k:Nat):Int)==0)=false:=by simp;omega
 have hl0:(0:Int)<((T.length - k:Nat):Int):=ar;clear h hk hb;go_enter func150,ntmps150;go_wp2_with fail;refine wp_loop_rounds 1 ?_;rw[rounds_succ];go_wp2_with fail;go_ret;exact⟨rfl,aA _ W⟩
theorem BX(W:agb)(pb b:Nat)(T:List Tok)(c k:Nat)(e kd Zh n a:Int)(s:BA0)(ov:R)(h:pK W pb b T c k e)(hk:T[k]?=O (kd,s,n,a))(hn:(kd==Zh)=false):
 Calls prog 150 #[M (O ⟨pb,0,U⟩),I J Zh,ov] W λ r W'=>r=.returned (.bool false)/\aZ W W':=by
 obtain⟨hb,d0,d1,d2,d3,kq⟩:=h.pick hk;have c0:=hb.cell 0;have lp:=h.lt;have lc:=h.cap;have lf:=h.few;have lb:b<W.heap.size:=by have :=h.lo;omega
 have hne:(((T.length - k:Nat):Int)==0)=false:=by simp;omega
 have hl0:(0:Int)<((T.length - k:Nat):Int):=ar;have WS:kd≠Zh:=by simpa using hn
 clear h hk hb;go_enter func150,ntmps150;go_wp2_with fail;go_ret;exact⟨rfl,aA _ W⟩
theorem uf(W:agb)(pb b:Nat)(T:List Tok)(c k:Nat)(e kd n a:Int)(s s':BA0)(ob oo oc:Nat)(r:Bool)(h:pK W pb b T c k e)(hk:T[k]?=O (kd,s,n,a))(ho:W.cell? ⟨ob,oo,U⟩=O (.string s'))(hr:(s.data.toList==s'.data.toList)=r):
 Calls prog 150 #[M (O ⟨pb,0,U⟩),I J kd,G (O ⟨ob,oo,U⟩) 1 (oc+1)] W λ q W'=>q=.returned (.bool r)/\aZ W W':=by
 obtain⟨hb,d0,d1,d2,d3,kq⟩:=h.pick hk;have c0:=hb.cell 0;have lp:=h.lt;have lc:=h.cap;have lf:=h.few;have lb:b<W.heap.size:=by have :=h.lo;omega
 have hne:(((T.length - k:Nat):Int)==0)=false:=by simp;omega
 have hl0:(0:Int)<((T.length - k:Nat):Int):=ar;have lo:ob<W.heap.size:=by exact World.block_lt_of_cell? W _ ho
 have hs:(s.toList==s'.toList)=r:=by rw[ByteArray.toList_eq,ByteArray.toList_eq];exact hr
 clear h hk hb hr;go_enter func150,ntmps150;go_wp2_with fail;refine wp_loop_rounds 2 ?_;rw[rounds_succ];cases r with
 |true=>
  go_wp2_with fail;go_ret;exact⟨rfl,aA _ W⟩
 |false=>
  go_wp2_with fail;rw[rounds_succ];go_wp2_with fail;go_ret;exact⟨rfl,aA _ W⟩
theorem Jt{W Y X:agb}{pb b:Nat}{T:List Tok}{c k:Nat}{e:Int}{v0 v1 v2 v3:R}{o:Obj}(h:pK X pb b T c k e)(ho:Only (λ g=>g=pb) Y X)(hW:aZ W Y)(hp:pb<W.heap.size)(Zi:b<pb):
 wZ pb b T c k e W (((((X.setCell ⟨W.heap.size,0,U⟩ v0).setCell ⟨W.heap.size,1,U⟩ v1).setCell ⟨W.heap.size,2,U⟩ v2).setCell ⟨W.heap.size,3,U⟩ v3).alloc o):=by
 have hq:Only (λ g=>g=W.heap.size) X (((((X.setCell ⟨W.heap.size,0,U⟩ v0).setCell ⟨W.heap.size,1,U⟩ v1).setCell ⟨W.heap.size,2,U⟩ v2).setCell ⟨W.heap.size,3,U⟩ v3).alloc o):=by refine((((((Only.refl _ X).aS (.inl ?_) _).aS (.inl ?_) _).aS (.inl ?_) _).aS (.inl ?_) _).alloc _)<;>rfl
 exact⟨h.only hq ar ar,((aw hW).trans ho).trans' hq λ g hg=>.inr ar⟩
theorem Ju(W:agb)(pb b:Nat)(T:List Tok)(c k:Nat)(e kd n a:Int)(s:BA0)(ov:R)(h:pK W pb b T c k e)(hk:T[k]?=O (kd,s,n,a))
 (hp:∀X,aZ W X->Calls prog 150 #[M (O ⟨pb,0,U⟩),I J kd,ov] X λ r W'=>r=.returned (.bool true)/\aZ X W'):
 Calls prog 151 #[M (O ⟨pb,0,U⟩),I J kd,ov] W λ r W'=>r=.returned (.agg #[I J kd,.string s,I J n,I J a])/\wZ pb b T c (k+1) e W W':=by
 have HH:=fH h hk hp;clear h hk hp;go_enter func151,ntmps151;go_upto_region 3 with(go_at_call 150;refine(HH.t2 _ dE).mono ?_;rintro r Y ⟨rfl,hb⟩;have HB:=aG hb;clear hb)
 have hY:(pK Y pb b T c k e/\aZ W Y)/\Bk Y W.heap.size #[I J 0,.string ⟨#[]⟩,I J 0,I J 0] 234:=by have hW:aZ W Y:=aq dE HB.o;exact⟨⟨HH.q1.grow hW,hW⟩,(Bk.new W _ _).below HB.o⟩
 obtain⟨⟨h,hW⟩,hr⟩:=hY;obtain⟨hb,d0,d1,d2,d3,kq⟩:=h.pick HH.q2;have c0:=hb.cell 0;have f0:=hb.free 0;have lp:=h.lt;have lp0:=HH.q1.lt;have lc:=h.cap;have lf:=h.few;have lo:=h.lo;have lb:b<Y.heap.size:=ar;have hl0:(0:Int)<((T.length - k:Nat):Int):=ar;have lr:=hr.lt;have fr:=hr.free;have r0:=hr.cell 0;have r1:=hr.cell 1;have r2:=hr.cell 2;have r3:=hr.cell 3;have HX:=iM h hW hr HH.q2;clear h hW hr hb HB HH;go_wp2_with fail
 case inl=>have hs:=HX.q1.step kq (A:=O ⟨b,k*4,U⟩) (n':=T.length - k - 1) (c':=0) (by rw[if_pos (by assumption)]) ar ar;have hb4:=((((((HX.q3.far (p:=⟨pb,0,U⟩) (by show W.heap.size≠pb;omega) (G (O ⟨b,k*4,U⟩) (T.length - k - 1) 0)).aS 0 (I J kd)).aS 1 (.string s)).aS 2 (I J n)).aS 3 (I J a)).alloc (D #[I J kd,.string s,I J n,I J a] 234));refine bodyPost_ret (gD (p:=⟨W.heap.size,0,U⟩) rfl rfl (hb4.load underlying234 rfl aV)) rfl ⟨rfl,?_⟩;exact Jt hs.1 hs.2 HX.q2 ar ar
 case inr=>have hs:=HX.q1.step kq (A:=O ⟨b,k*4+4,U⟩) (n':=T.length - k - 1) (c':=c - k - 1) (by rw[if_neg (by assumption)]) ar ar;have hb4:=((((((HX.q3.far (p:=⟨pb,0,U⟩) (by show W.heap.size≠pb;omega) (G (O ⟨b,k*4+4,U⟩) (T.length - k - 1) (c - k - 1))).aS 0 (I J kd)).aS 1 (.string s)).aS 2 (I J n)).aS 3 (I J a)).alloc (D #[I J kd,.string s,I J n,I J a] 234));refine bodyPost_ret (gD (p:=⟨W.heap.size,0,U⟩) rfl rfl (hb4.load underlying234 rfl aV)) rfl ⟨rfl,?_⟩;exact Jt hs.1 hs.2 HX.q2 ar ar
structure xu(W:agb)(pb b:Nat)(T:List Tok)(c:Nat)(e:Int)(rb:Nat)(ty:TypeId)(F:agb->Prop)(k:Nat)(C:Array R)(X:agb):Prop where
 p:pK X pb b T c k e
 v:Bk X rb C ty
 f:F X
 o:Only (λ g=>g=pb\/g=rb) W X
 ne:rb≠pb
 na:b≠rb
 st:∀X X',Only (λ g=>g=pb\/g=rb) X X'->F X->F X'
section
variable{W X X':agb}{pb b:Nat}{T:List Tok}{c:Nat}{e:Int}{rb:Nat}{ty:TypeId}{F:agb->Prop}{k k':Nat}{C C':Array R}
theorem wZ.sizes(h:wZ pb b T c k e W X):W.heap.size<=X.heap.size:=h.2.size
theorem xu.go(h:xu W pb b T c e rb ty F k C X)(hg:wZ pb b T c k' e X X'):xu W pb b T c e rb ty F k' C X':=by have ho:Only (λ g=>g=pb\/g=rb) X X':=hg.2.mono λ g hg=>.inl hg;exact⟨hg.1,h.v.only hg.2 h.ne,h.st _ _ ho h.f,h.o.trans ho,h.ne,h.na,h.st⟩
theorem xu.aS(h:xu W pb b T c e rb ty F k C X)(i:Nat)(v:R):xu W pb b T c e rb ty F k (C.setIfInBounds i v) (X.setCell ⟨rb,i,U⟩ v):=by have ho:Only (λ g=>g=pb\/g=rb) X (X.setCell ⟨rb,i,U⟩ v):=(Only.refl (λ g=>g=pb\/g=rb) X).aS (p:=⟨rb,i,U⟩) (.inl (.inr rfl)) v;have uH:Only (λ g=>g=rb) X (X.setCell ⟨rb,i,U⟩ v):=(Only.refl (λ g=>g=rb) X).aS (p:=⟨rb,i,U⟩) (.inl rfl) v;exact⟨h.p.only uH (λ q=>h.ne q.symm) h.na,h.v.aS i v,h.st _ _ ho h.f,h.o.trans ho,h.ne,h.na,h.st⟩
theorem xu.grow(h:xu W pb b T c e rb ty F k C X)(hb:aZ X X'):xu W pb b T c e rb ty F k C X':=
 ⟨h.p.grow hb,h.v.below hb,h.st _ _ (aw hb) h.f,h.o.trans (aw hb),h.ne,h.na,h.st⟩
theorem xu.drew(h:xu W pb b T c e rb ty F k C X):xu W pb b T c e rb ty F k C X.drew:=h.grow ((aA _ X).drew)
theorem xu.acu(h:xu W pb b T c e rb ty F k C X){F':agb->Prop}(hf:F' X)(st:∀X X',Only (λ g=>g=pb\/g=rb) X X'->F' X->F' X'):xu W pb b T c e rb ty F' k C X:=⟨h.p,h.v,hf,h.o,h.ne,h.na,st⟩
theorem xu.done(h:xu W pb b T c e rb ty F k C X)(hr:W.heap.size<=rb):wZ pb b T c k e W X:=⟨h.p,(Only.refl (λ g=>g=pb) W).trans' h.o λ g hg=>hg.imp id λ q=>ar⟩
end
theorem wZ.Jv{W X:agb}{pb b:Nat}{T:List Tok}{c k r0:Nat}{e:Int}{l:List R}(h:wZ pb b T c k e W X)(hA:b<pb)(h0:W.heap.size<=r0)(hp:pb<W.heap.size):wZ pb b T c k e W (xS X r0 0 l):=by have ho:=iA (b:=r0) l 0 X;exact⟨h.1.only ho ar ar,h.2.trans' ho λ g hg=>.inr ar⟩
theorem C5(W:agb)(pb b:Nat)(T:List Tok)(c k:Nat)(e n a:Int)(s:BA0)(h:pK W pb b T c k e)(hk:T[k]?=O (1,s,n,a)):
 Calls prog 152 #[M (O ⟨pb,0,U⟩),.string s] W λ r W'=>r=.returned (.bool true)/\wZ pb b T c (k+1) e W W':=by
 have HH:=dt h hk;have hr:(s.data.toList==s.data.toList)=true:=bY;have hC:=aG (λ X (hX:aZ W X) ob oo ho=>uf X pb b T c k e 1 n a s s ob oo 0 true (h.grow hX) hk ho hr);clear h hk;go_enter func152,ntmps152;go_upto_region 2 with(go_at_call 150;refine(hC.o _ dE _ _ (by simp[go_sem])).mono ?_;rintro r Y ⟨rfl,hb⟩;have HB:=aG hb;clear hb);have hW:aZ W Y:=aq dE HB.o;have h:=HH.q1.grow hW;obtain⟨hb,d0,d1,d2,d3,kq⟩:=h.pick HH.t1;have c0:=hb.cell 0;have f0:=hb.free 0;have lp:=h.lt;have lp0:=HH.q1.lt;have lc:=h.cap;have lf:=h.few;have lo:=h.lo;have lb:b<Y.heap.size:=ar;have HX:=dt h hW;clear h hW hb HB HH hC;go_wp2_with fail
 case inl=>have hs:=HX.q1.step kq (A:=O ⟨b,k*4,U⟩) (n':=T.length - k - 1) (c':=0) (by rw[if_pos (by assumption)]) ar ar;go_ret;exact⟨rfl,hs.1,(aw HX.t1).trans hs.2⟩
 case inr=>have hs:=HX.q1.step kq (A:=O ⟨b,k*4+4,U⟩) (n':=T.length - k - 1) (c':=c - k - 1) (by rw[if_neg (by assumption)]) ar ar;go_ret;exact⟨rfl,hs.1,(aw HX.t1).trans hs.2⟩
theorem WT(W:agb)(pb b:Nat)(T:List Tok)(c k:Nat)(e kd n a:Int)(s s':BA0)(h:pK W pb b T c k e)(hk:T[k]?=O (kd,s,n,a))(hn:(kd==1)=false\/(kd=1/\(s.data.toList==s'.data.toList)=false)):
 Calls prog 152 #[M (O ⟨pb,0,U⟩),.string s'] W λ r W'=>r=.returned (.bool false)/\aZ W W':=by
 have hC:Hid (∀X,aZ W X->∀ob oo,X.cell? ⟨ob,oo,U⟩=O (.string s')->Calls prog 150 #[M (O ⟨pb,0,U⟩),I J 1,G (O ⟨ob,oo,U⟩) 1 1] X λ q W'=>q=.returned (.bool false)/\aZ X W'):=by
  refine aG λ X hX ob oo ho=>?_;rcases hn with hn|⟨rfl,hn⟩
  · exact BX X pb b T c k e kd 1 n a s _ (h.grow hX) hk hn
  · exact uf X pb b T c k e 1 n a s s' ob oo 0 false (h.grow hX) hk ho hn
 clear h hk hn;go_enter func152,ntmps152;go_wp2_with (go_at_call 150;refine(hC.o _ dE _ _ (by simp[go_sem])).mono ?_;rintro r Y ⟨rfl,hb⟩;have HB:=aG hb;clear hb);go_ret;exact⟨rfl,aq dE HB.o⟩
structure vd(W:agb)(pb:Nat)(A:dB)(T:List Tok)(c:Nat)(e:Int)(rb:Nat)(ty:TypeId)(F:agb->Prop)(k:Nat)(C:Array R)(X:agb):Prop where
 p:oT X pb A T c k e
 b:Bk X rb C ty
 f:F X
 o:Only (λ g=>g=pb\/g=rb) W X
 ne:rb≠pb
 na:∀g off,A=O ⟨g,off,U⟩->g≠rb
 st:∀X X',Only (λ g=>g=pb\/g=rb) X X'->F X->F X'
section
variable{W X X':agb}{pb:Nat}{A:dB}{T:List Tok}{c:Nat}{e:Int}{rb:Nat}{ty:TypeId}{F:agb->Prop}{k k':Nat}{C C':Array R}
theorem vd.go(h:vd W pb A T c e rb ty F k C X)(hg:NL pb A T c k' e X X'):vd W pb A T c e rb ty F k' C X':=by have ho:Only (λ g=>g=pb\/g=rb) X X':=hg.2.mono λ g hg=>.inl hg;exact⟨hg.1,h.b.only hg.2 h.ne,h.st _ _ ho h.f,h.o.trans ho,h.ne,h.na,h.st⟩
theorem vd.Jw(h:vd W pb A T c e rb ty F k C X)(hg:oT X' pb A T c k' e/\Bk X' rb C' ty/\Only (λ g=>g=pb\/g=rb) X X'):vd W pb A T c e rb ty F k' C' X':=
 ⟨hg.1,hg.2.1,h.st _ _ hg.2.2 h.f,h.o.trans hg.2.2,h.ne,h.na,h.st⟩
theorem vd.aS(h:vd W pb A T c e rb ty F k C X)(i:Nat)(v:R):vd W pb A T c e rb ty F k (C.setIfInBounds i v) (X.setCell ⟨rb,i,U⟩ v):=by have ho:Only (λ g=>g=pb\/g=rb) X (X.setCell ⟨rb,i,U⟩ v):=(Only.refl (λ g=>g=pb\/g=rb) X).aS (p:=⟨rb,i,U⟩) (.inl (.inr rfl)) v;exact⟨h.p.aS h.ne h.na _ _,h.b.aS i v,h.st _ _ ho h.f,h.o.trans ho,h.ne,h.na,h.st⟩
theorem vd.grow(h:vd W pb A T c e rb ty F k C X)(hb:aZ X X'):vd W pb A T c e rb ty F k C X':=
 ⟨h.p.grow hb,h.b.below hb,h.st _ _ (aw hb) h.f,h.o.trans (aw hb),h.ne,h.na,h.st⟩
theorem vd.drew(h:vd W pb A T c e rb ty F k C X):vd W pb A T c e rb ty F k C X.drew:=h.grow ((aA _ X).drew)
theorem vd.acu(h:vd W pb A T c e rb ty F k C X){F':agb->Prop}(hf:F' X)(st:∀X X',Only (λ g=>g=pb\/g=rb) X X'->F' X->F' X'):vd W pb A T c e rb ty F' k C X:=⟨h.p,h.b,hf,h.o,h.ne,h.na,st⟩
theorem vd.done(h:vd W pb A T c e rb ty F k C X)(hr:W.heap.size<=rb):NL pb A T c k e W X:=⟨h.p,(Only.refl (λ g=>g=pb) W).trans' h.o λ g hg=>hg.imp id λ q=>ar⟩
end
theorem NL.Jv{W X:agb}{pb:Nat}{A:dB}{T:List Tok}{c k r0:Nat}{e:Int}{l:List R}(h:NL pb A T c k e W X)(hA:∀g off,A=O ⟨g,off,U⟩->g<pb)(h0:W.heap.size<=r0)(hp:pb<W.heap.size):NL pb A T c k e W (xS X r0 0 l):=by have ho:=iA (b:=r0) l 0 X;exact⟨h.1.only ho ar (λ g off q e=>by have :=hA g off q;omega),h.2.trans' ho λ g hg=>.inr ar⟩
abbrev fT:Array R:=#[.string ⟨#[114]⟩,I J 20,I J 5,I J 1,I J 3,I J 2,G U 0 0,I J 79]
abbrev aar:Array R:=#[.string ⟨#[]⟩,I J 0,I J 0,I J 0,I J 0,I J 0,G U 0 0,I J 0]
theorem adX(W:agb)(pb:Nat)(A:dB)(c:Nat)(h:oT W pb A dX c 24 147):
 Calls prog 218 #[M (O ⟨pb,0,U⟩)] W λ r W'=>r=.returned (.agg fT)/\NL pb A dX c 36 147 W W':=by
 have lp:=h.lt;have hA:=h.ne;have hat:=λ X (hX:aZ W X)=>yX X pb A dX c 24 147 _ _ _ _ (h.grow hX) rfl;have kW:=dt h hat;clear h hat;go_enter func218,ntmps218;go_upto_region 2 with(go_at_call 174;refine(kW.t1 _ dE).mono ?_;rintro r Y ⟨rfl,hb⟩;have HB:=aG hb;clear hb);obtain⟨rb,kS⟩:∃x,Y.heap.size=x:=⟨_,rfl⟩;have hz:=HB.o.size
 have hL:vd W pb A dX c 147 rb 166 (λ X=>Bk X W.heap.size aar 166) 24 #[.string ⟨#[]⟩,I J 0,I J 0,I J 0,I J 0,I J 0,G U 0 0,I J 79] (Y.alloc (D #[.string ⟨#[]⟩,I J 0,I J 0,I J 0,I J 0,I J 0,G U 0 0,I J 79] 166)):=by have hb:aZ W Y:=aq dE HB.o;refine⟨kW.q1.grow dE,au _ _ _ _ kS,?_,aw dE,by simp at hz;omega,λ g off q=>by have :=hA g off q;simp at hz;omega,λ X X' ho hk=>hk.only ho (by simp at hz;omega)⟩;exact((Bk.new W _ _).below HB.o).alloc _
 have LL:W.heap.size<rb:=by simp at hz;omega
 rw[kS];refine forget (λ X=>vd W pb A dX c 147 rb 166 (λ X=>Bk X W.heap.size aar 166) 24 #[.string ⟨#[]⟩,I J 0,I J 0,I J 0,I J 0,I J 0,G U 0 0,I J 79] X) hL ?_;clear hL kS HB hz kW;clear Y;intro X hL;have HS:=aG hL;have lb:=hL.b.lt;have fb:=hL.b.free;have cb:=hL.b.cell;clear hL;go_upto_region 4 with(first|(go_at_call 107;refine(jG _ _ _ dX _ _ 147 _ _ _ _ HS.o.p rfl rfl).mono ?_;rintro r X ⟨⟨v,rfl⟩,hg⟩;replace HS:=aG (HS.o.go hg);clear hg)|(go_at_call 108;refine(pJ _ _ _ dX _ _ 147 _ _ _ _ HS.o.p rfl).mono ?_;rintro r X ⟨rfl,hg⟩;replace HS:=aG (HS.o.go hg);have lb:=HS.o.b.lt;have fb:=HS.o.b.free;have cb:=HS.o.b.cell;clear hg));replace HS:=aG (HS.o.aS 0 (.string ⟨#[114]⟩));clear lb fb cb;go_upto_region 6 with(first|(go_at_call 107;refine(jG _ _ _ dX _ _ 147 _ _ _ _ HS.o.p rfl rfl).mono ?_;rintro r X ⟨⟨v,rfl⟩,hg⟩;replace HS:=aG (HS.o.go hg);clear hg)|(go_at_call 109;refine(mM HS.o.p [(1,20),(2,5)] 2 HS.o.b aV HS.o.ne HS.o.na rfl ar bY).mono ?_;rintro r X ⟨⟨v,rfl⟩,hg⟩;replace HS:=aG (HS.o.Jw hg);clear hg));go_upto_region 8 with(first|(go_at_call 107;refine(jG _ _ _ dX _ _ 147 _ _ _ _ HS.o.p rfl rfl).mono ?_;rintro r X ⟨⟨v,rfl⟩,hg⟩;replace HS:=aG (HS.o.go hg);clear hg)|(go_at_call 109;refine(mM HS.o.p [(3,1)] 1 HS.o.b aV HS.o.ne HS.o.na rfl ar bY).mono ?_;rintro r X ⟨⟨v,rfl⟩,hg⟩;replace HS:=aG (HS.o.Jw hg);clear hg));go_upto_region 10 with(first|(go_at_call 107;refine(jG _ _ _ dX _ _ 147 _ _ _ _ HS.o.p rfl rfl).mono ?_;rintro r X ⟨⟨v,rfl⟩,hg⟩;replace HS:=aG (HS.o.go hg);clear hg)|(go_at_call 109;refine(mM HS.o.p [(4,3)] 1 HS.o.b aV HS.o.ne HS.o.na rfl ar bY).mono ?_;rintro r X ⟨⟨v,rfl⟩,hg⟩;replace HS:=aG (HS.o.Jw hg);clear hg));go_upto_region 13 with(first|(go_at_call 107;refine(jG _ _ _ dX _ _ 147 _ _ _ _ HS.o.p rfl rfl).mono ?_;rintro r X ⟨⟨v,rfl⟩,hg⟩;replace HS:=aG (HS.o.go hg);clear hg)|(go_at_call 109;refine(mM HS.o.p [(5,2)] 1 HS.o.b aV HS.o.ne HS.o.na rfl ar bY).mono ?_;rintro r X ⟨⟨v,rfl⟩,hg⟩;replace HS:=aG (HS.o.Jw hg);clear hg)|(go_at_call 229;refine(WR _ _ _ dX _ _ 147 _ _ _ _ HS.o.p rfl cj).mono ?_;rintro r X ⟨rfl,hg⟩;replace HS:=aG (HS.o.grow hg);clear hg))
 replace HS:=aG (HS.o.grow (aj X (D #[I J 0,I J 0,I J 0] 253)));refine wp_loop_rounds 1 ?_;rw[rounds_succ];go_upto_region 19 with(go_at_call 107;refine(jG _ _ _ dX _ _ 147 _ _ _ _ HS.o.p rfl rfl).mono ?_;rintro r X ⟨⟨v,rfl⟩,hg⟩;replace HS:=aG (HS.o.go hg);clear hg);have hB:Bk X rb fT 166:=HS.o.b;obtain⟨cb,lb⟩:=hB.cl0;have h0:Bk X W.heap.size aar 166:=HS.o.f;have c0:=h0.cell;have f0:=h0.free;have l0:=h0.lt;have hD:=HS.o.done (gS LL);have HD:=fH hD hB h0;clear hD hB h0 HS;go_wp2_with fail;refine bodyPost_ret (gD (p:=⟨W.heap.size,0,U⟩) rfl rfl (Bk.load (jF HD.t2 fT rfl) underlying166 rfl aV)) rfl ⟨rfl,HD.q1.Jv (l:=fT.toList) hA (ah _) lp⟩
end
end Go.Proofs.YtbcpcneadjcmlaaGreatDoor
