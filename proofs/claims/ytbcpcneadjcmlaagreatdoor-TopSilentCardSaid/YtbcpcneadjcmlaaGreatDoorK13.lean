import Derived.Test.YtbcpcneadjcmlaaGreatDoorK02
import Derived.BigRegion
import Derived.Deep.Cut
import Derived.Deep.RegionHeld3
import Derived.DeepKeys4
namespace Go.Proofs.YtbcpcneadjcmlaaGreatDoor
open Go.Proofs.Tryz
set_option maxRecDepth 100000
set_option maxHeartbeats 16000000
set_option linter.unusedVariables false
set_option linter.unusedSimpArgs false
open Value renaming int→I,slice→G,pointer→M
open IntKind renaming i64→J
open Obj renaming cells→D
open Option renaming some→O,none→U
open Go renaming Value→R,World→agb
section
open Go.RowKit
set_option linter.unusedSectionVars false
structure Bs(δ:Type) where
 nodes:List Nd
 leaves:List δ
 known:Nd->Option Nat
 nk:Nat
 made:List Nat×Nat->Option Nat
 nm:Nat
 leaf:δ->Option Nat
 nl:Nat
def tL{κ:Type}[DecidableEq κ](f:κ->Option Nat)(c:κ)(v:Nat):κ->Option Nat:=λ x=>if x=c then O v else f x
theorem mq{κ:Type}[DecidableEq κ](f:κ->Option Nat)(c:κ)(v:Nat):tL f c v c=O v:=if_pos rfl
theorem nB{κ:Type}[DecidableEq κ](f:κ->Option Nat){c x:κ}(v:Nat)(h:x≠c):tL f c v x=f x:=if_neg h
def aex(o:Option Nat)(m:Nat):Nat:=if o.isSome then m else m+1
section
variable{δ:Type}[DecidableEq δ]
def ra(s:Bs δ)(n:Nd):Bs δ×Nat:=
 match s.known n with
 |some k=>(s,k)
 |none=>({s with nodes:=s.nodes++[n],known:=tL s.known n s.nodes.length,nk:=s.nk+1},s.nodes.length)
def jW(s:Bs δ)(d:δ):Bs δ:=
 match s.leaf d with
 |some _=>s
 |none=>{s with leaves:=s.leaves++[d],leaf:=tL s.leaf d s.leaves.length,nl:=s.nl+1}
def jX(K:Bs δ×List Int×List Nat)(c:Int)(r:Bs δ×Nat):Bs δ×List Int×List Nat:=
 if K.2.2.getLast?=O r.2 then(r.1,K.2.1,K.2.2) else(r.1,if K.2.2=[] then K.2.1 else K.2.1++[c],K.2.2++[r.2])
def j7(s:Bs δ)(d:δ):Bs δ×Nat:=ra (jW s d) ⟨0,[],[],((jW s d).leaf d).getD 0⟩
def eN(K:Bs δ×List Int×List Nat)(attr:Nat):Bs δ×Nat:=if 1<K.2.2.length then ra K.1 ⟨attr,K.2.1,K.2.2,0⟩ else(K.1,K.2.2.headD 0)
def Dj(s:Bs δ)(key:List Nat×Nat)(n:Nat):Bs δ:={s with made:=tL s.made key n,nm:=aex (s.made key) s.nm}
end
def stA(Z:List Zn)(lim:Zn)(attr:Nat)(live:List Nat):List Int:=N5 (fI Z (atR lim attr).1 (atR lim attr).2 attr live)
theorem nC{Z:List Zn}{lo hi:Int}{attr:Nat}{live:List Nat}{c:Int}(h:c∈fI Z lo hi attr live):lo<=c/\(c=lo\/c<=hi):=by
 unfold fI at h;rcases aR.1 h with rfl|h
 · exact⟨Int.le_refl _,.inl rfl⟩
 · obtain⟨z,_,hz⟩:=dP.1 h
   have :=(dY.1 hz).2;simp only[aD,decide_eq_true_eq] at this;exact⟨ar,.inr this.2⟩
theorem lU(Z:List Zn)(lim:Zn)(attr:Nat)(live:List Nat):(stA Z lim attr live).Pairwise (· < ·)/\(stA Z lim attr live).head?=O (atR lim attr).1/\∀d,d∈stA Z lim attr live↔d∈fI Z (atR lim attr).1 (atR lim attr).2 attr live:=
 ⟨(sK _).1,Tm (by simp[fI]) (λ x hx=>(nC hx).1),(sK _).2⟩
theorem yi(Z:List Zn)(lim:Zn)(attr:Nat)(live:List Nat):∃r,stA Z lim attr live=(atR lim attr).1::r:=by
 have h:=(lU Z lim attr live).2.1;cases e:stA Z lim attr live with
 |nil=>rw[e] at h;cases h
 |cons a r=>rw[e] at h;cases h;exact⟨r,rfl⟩
def gg(Z:List Zn)(attr:Nat)(live:List Nat)(c:Int):List Nat:=live.filter λ z=>r8 (atR (dK Z z) attr) c
section
variable{δ:Type}[DecidableEq δ](Z:List Zn)(lim:Zn)(eE:Fc->δ)
def eZ:Nat->List Nat->Fc->Bs δ->Bs δ×Nat
 |0,live,f,s=>j7 s (eE f)
 |k+1,live,f,s=>
  match s.made (live,9 - k) with
  |some n=>(s,n)
  |none=>if 20000<s.nodes.length then(s,0) else
   let r:=eN ((stA Z lim (9 - k) live).foldl (λ K c=>jX K c (eZ k (gg Z (9 - k) live c) (f.set (9 - k) c) K.1)) (s,[],[])) (9 - k)
   (Dj r.1 (live,9 - k) r.2,r.2)
def gF(k:Nat)(live:List Nat)(f:Fc)(S:List Int)(K:Bs δ×List Int×List Nat):Bs δ×List Int×List Nat:=
 S.foldl (λ K c=>jX K c (eZ Z lim eE k (gg Z (9 - k) live c) (f.set (9 - k) c) K.1)) K
variable{Z lim eE}
theorem qF{k:Nat}{live:List Nat}{f:Fc}{s:Bs δ}{n:Nat}(h:s.made (live,9 - k)=O n):eZ Z lim eE (k+1) live f s=(s,n):=by show(match s.made (live,9 - k) with |some n=>(s,n)|none=>_)=_;rw[h]
theorem qG{k:Nat}{live:List Nat}{f:Fc}{s:Bs δ}(h:s.made (live,9 - k)=U)(h2:20000<s.nodes.length):eZ Z lim eE (k+1) live f s=(s,0):=by show(match s.made (live,9 - k) with |some n=>(s,n)|none=>_)=_;rw[h];exact if_pos h2
theorem rQ{k:Nat}{live:List Nat}{f:Fc}{s:Bs δ}(h:s.made (live,9 - k)=U)(h2:¬20000<s.nodes.length):eZ Z lim eE (k+1) live f s=
 (Dj (eN (gF Z lim eE k live f (stA Z lim (9 - k) live) (s,[],[])) (9 - k)).1 (live,9 - k) (eN (gF Z lim eE k live f (stA Z lim (9 - k) live) (s,[],[])) (9 - k)).2,
  (eN (gF Z lim eE k live f (stA Z lim (9 - k) live) (s,[],[])) (9 - k)).2):=by
 show(match s.made (live,9 - k) with |some n=>(s,n)|none=>_)=_;rw[h];exact if_neg h2
structure Gr(n:Nat)(s s':Bs δ):Prop where
 nodes:∃aai,s'.nodes=s.nodes++aai/\aai.length<=n
 leaves:∃aai,s'.leaves=s.leaves++aai/\aai.length<=n
 nk:s.nk<=s'.nk/\s'.nk<=s.nk+n
 nm:s.nm<=s'.nm/\s'.nm<=s.nm+n
 nl:s.nl<=s'.nl/\s'.nl<=s.nl+n
theorem Gr.refl(s:Bs δ):Gr 0 s s:=⟨⟨[],bY⟩,⟨[],bY⟩,ar,ar,ar⟩
theorem Gr.trans{n m:Nat}{a b c:Bs δ}(h:Gr n a b)(k:Gr m b c):Gr (n+m) a c:=by obtain⟨M1,e1,l1⟩:=h.nodes;obtain⟨M2,e2,l2⟩:=k.nodes;obtain⟨L1,f1,g1⟩:=h.leaves;obtain⟨L2,f2,g2⟩:=k.leaves;have :=h.nk;have :=k.nk;have :=h.nm;have :=k.nm;have :=h.nl;have :=k.nl;exact⟨⟨M1++M2,by rw[e2,e1,List.append_assoc],by simp;omega⟩,⟨L1++L2,by rw[f2,f1,List.append_assoc],by simp;omega⟩,ar,ar,ar⟩
theorem Gr.mono{n m:Nat}{a b:Bs δ}(h:Gr n a b)(hm:n<=m):Gr m a b:=by obtain⟨M1,e1,l1⟩:=h.nodes;obtain⟨L1,f1,g1⟩:=h.leaves;have :=h.nk;have :=h.nm;have :=h.nl;exact⟨⟨M1,e1,ar⟩,⟨L1,f1,ar⟩,ar,ar,ar⟩
theorem Gr.le{n:Nat}{a b:Bs δ}(h:Gr n a b):a.nodes.length<=b.nodes.length:=by obtain⟨M1,e1,l1⟩:=h.nodes;rw[e1];simp
theorem B8(s:Bs δ)(n:Nd):Gr 1 s (ra s n).1:=by
 unfold ra;split
 · exact(Gr.refl s).mono ar
 · exact⟨⟨[n],rfl,bY⟩,⟨[],bY⟩,bY,bY,bY⟩
theorem Tn(s:Bs δ)(d:δ):Gr 1 s (jW s d):=by
 unfold jW;split
 · exact(Gr.refl s).mono ar
 · exact⟨⟨[],bY⟩,⟨[d],rfl,bY⟩,bY,bY,bY⟩
theorem Dl(s:Bs δ)(key:List Nat×Nat)(n:Nat):Gr 1 s (Dj s key n):=by unfold Dj aex;exact⟨⟨[],bY⟩,⟨[],bY⟩,bY,by dsimp only;split<;>omega,bY⟩
theorem Dm(s:Bs δ)(d:δ):Gr 2 s (j7 s d).1:=(Tn s d).trans (B8 _ _)
theorem sM(K:Bs δ×List Int×List Nat)(a:Nat):Gr 1 K.1 (eN K a).1:=by
 unfold eN;split
 · exact B8 _ _
 · exact(Gr.refl _).mono ar
theorem rR(K:Bs δ×List Int×List Nat)(c:Int)(r:Bs δ×Nat):(jX K c r).1=r.1:=by unfold jX;split<;>rfl
def il(c:Nat->Nat):Nat->Nat
 |0=>2
 |k+1=>2+c (9 - k)*il c k
theorem yj{n k:Nat}{live:List Nat}{f:Fc}(h:∀live f s,Gr n s (eZ Z lim eE k live f s).1):∀(S:List Int)(K:Bs δ×List Int×List Nat),Gr (S.length*n) K.1 (gF Z lim eE k live f S K).1
 |[],K=>by simpa [gF] using Gr.refl K.1
 |c::S,K=>by
  have h1:=h (gg Z (9 - k) live c) (f.set (9 - k) c) K.1;have h2:=yj (live:=live) (f:=f) h S (jX K c (eZ Z lim eE k (gg Z (9 - k) live c) (f.set (9 - k) c) K.1));rw[rR] at h2;have :=h1.trans h2;refine this.mono ?_;simp[Nat.succ_mul];omega
theorem mr{c:Nat->Nat}(hc:∀a live,(stA Z lim a live).length<=c a):∀(k:Nat)(live:List Nat)(f:Fc)(s:Bs δ),Gr (il c k) s (eZ Z lim eE k live f s).1
 |0,live,f,s=>Dm s _
 |k+1,live,f,s=>by
  rcases h:s.made (live,9 - k) with _|n
  · by_cases h2:20000<s.nodes.length
    · rw[qG h h2]
      exact(Gr.refl s).mono (ak _)
    · rw[rQ h h2]
      have h1:=yj (live:=live) (f:=f) (mr hc k) (stA Z lim (9 - k) live) (s,[],[]);have h3:=(h1.trans (sM _ (9 - k))).trans (Dl _ (live,9 - k) (eN (gF Z lim eE k live f (stA Z lim (9 - k) live) (s,[],[])) (9 - k)).2);refine h3.mono ?_;have :=gh (il c k) (hc (9 - k) live);show _<=2+c (9 - k)*il c k;omega
  · rw[qF h]
    exact(Gr.refl s).mono (ak _)
variable(Z lim eE)
structure zw(s:Bs δ):Prop where
 ok:BW lim s.nodes s.leaves
 known:∀n k,s.known n=O k↔s.nodes[k]?=O n
 leaf:∀d k,s.leaf d=O k↔s.leaves[k]?=O d
 made:∀live a k,s.made (live,a)=O k->Made Z lim eE s.nodes s.leaves live a k
variable{Z lim eE}
theorem tV.more{N:List Nd}{i l:Nat}{nd:Nd}(h:tV lim N i l nd)(hi:i<=N.length)(aai:List Nd){l':Nat}(hl:l<=l'):tV lim (N++aai) i l' nd:=by
 rcases h with⟨a1,a2,a3,a4⟩|⟨a1,a2,a3,a4,a5,a6,a7,a8⟩
 · exact .inl ⟨a1,a2,a3,ar⟩
 · exact .inr ⟨a1,a2,a3,a4,a5,a6,a7,λ k hk=>⟨(a8 k hk).1,λ nk hn=>(a8 k hk).2 nk (by rwa [bM (by have :=(a8 k hk).1;omega)] at hn)⟩⟩
theorem BW.add{N:List Nd}{L:List δ}(h:BW lim N L){n:Nd}(hn:n∉N)(hf:tV lim N N.length L.length n):BW lim (N++[n]) L:=by
 refine⟨λ i nd hi=>?_,?_,h.leaves⟩
 · by_cases hlt:i<N.length
   · rw[bM hlt] at hi
     exact(h.form i nd hi).more ar _ (ah _)
   · have Jg:=(ai.1 hi).1
     simp at Jg;obtain rfl:i=N.length:=ar;rw[bP (ah _)] at hi;simp at hi;subst hi;exact hf.more (ah _) _ (ah _)
 · rw[kL]
   exact⟨h.nodes,bY,λ a ha b hb e=>hn (by rw[aN.1 hb] at e;rw[<-e];exact ha)⟩
theorem BW.Xw{N:List Nd}{L:List δ}(h:BW lim N L){d:δ}(hd:d∉L):BW lim N (L++[d]):=by
 refine⟨λ i nd hi=>?_,h.nodes,?_⟩
 · have :=(h.form i nd hi).more (by have :=(ai.1 hi).1;omega) [] (l':=(L++[d]).length) bY
   rwa [dU] at this
 · rw[kL]
   exact⟨h.leaves,bY,λ a ha b hb e=>hd (by rw[aN.1 hb] at e;rw[<-e];exact ha)⟩
theorem vF{α:Type}{N:List α}{x:α}(hx:x∉N)(y:α)(k:Nat):(N++[x])[k]?=O y↔N[k]?=O y\/(k=N.length/\y=x):=by
 by_cases hlt:k<N.length
 · rw[bM hlt]
   exact⟨.inl,λ h=>h.elim id (λ h=>ar)⟩
 · rw[bP ar]
   by_cases he:k=N.length
   · subst he
     simp;exact⟨λ h=>h.symm,λ h=>h.symm⟩
   · rw[cX gW,cX ar]
     simp[he]
theorem PW{N:List Nd}{f:Nd->Option Nat}(hf:∀n k,f n=O k↔N[k]?=O n){x:Nd}(hx:f x=U):x∉N/\∀n k,tL f x N.length n=O k↔(N++[x])[k]?=O n:=by
 have hm:x∉N:=λ hm=>by obtain⟨k,hk⟩:=List.mem_iff_getElem?.1 hm;rw[(hf x k).2 hk] at hx;cases hx
 refine⟨hm,λ n k=>?_⟩;rw[vF hm];by_cases he:n=x
 · subst he
   rw[mq];constructor
   · intro h;cases h;exact .inr ⟨rfl,rfl⟩
   · rintro(h|⟨rfl,_⟩)
     · exact absurd (az h) hm
     · rfl
 · rw[nB f _ he,hf]
   exact⟨.inl,λ h=>h.elim id (λ h=>absurd h.2 he)⟩
theorem Tp{L:List δ}{f:δ->Option Nat}(hf:∀n k,f n=O k↔L[k]?=O n){x:δ}(hx:f x=U):x∉L/\∀n k,tL f x L.length n=O k↔(L++[x])[k]?=O n:=by
 have hm:x∉L:=λ hm=>by obtain⟨k,hk⟩:=List.mem_iff_getElem?.1 hm;rw[(hf x k).2 hk] at hx;cases hx
 refine⟨hm,λ n k=>?_⟩;rw[vF hm];by_cases he:n=x
 · subst he
   rw[mq];constructor
   · intro h;cases h;exact .inr ⟨rfl,rfl⟩
   · rintro(h|⟨rfl,_⟩)
     · exact absurd (az h) hm
     · rfl
 · rw[nB f _ he,hf]
   exact⟨.inl,λ h=>h.elim id (λ h=>absurd h.2 he)⟩
theorem N9{s:Bs δ}(h:zw Z lim eE s){n:Nd}(hf:tV lim s.nodes s.nodes.length s.leaves.length n):zw Z lim eE (ra s n).1/\(ra s n).1.nodes[(ra s n).2]?=O n/\(ra s n).1.leaves=s.leaves:=by
 unfold ra;split
 · rename_i k hk
   exact⟨h,(h.known n k).1 hk,rfl⟩
 · rename_i hk
   obtain⟨hm,hp⟩:=PW h.known hk;refine⟨⟨h.ok.add hm hf,hp,h.leaf,λ live a k hl=>?_⟩,bY,rfl⟩;have :=(h.made live a k hl).more (aai:=[n]) (K:=[]);rwa [dU] at this
theorem Tq{s:Bs δ}(h:zw Z lim eE s)(d:δ):zw Z lim eE (jW s d)/\∃k,(jW s d).leaf d=O k/\(jW s d).leaves[k]?=O d/\(jW s d).nodes=s.nodes:=by
 unfold jW;split
 · rename_i k hk
   exact⟨h,k,hk,(h.leaf d k).1 hk,rfl⟩
 · rename_i hk
   obtain⟨hm,hp⟩:=Tp h.leaf hk;refine⟨⟨h.ok.Xw hm,h.known,hp,λ live a k hl=>?_⟩,s.leaves.length,mq _ _ _,bY,rfl⟩;have :=(h.made live a k hl).more (aai:=[]) (K:=[d]);rwa [dU] at this
theorem Me{s:Bs δ}(h:zw Z lim eE s)(hD:∀f g,cu Z 10 f=cu Z 10 g->eE f=eE g)(f:Fc):zw Z lim eE (j7 s (eE f)).1/\Made Z lim eE (j7 s (eE f)).1.nodes (j7 s (eE f)).1.leaves (cu Z 10 f) 10 (j7 s (eE f)).2:=by
 obtain⟨h1,k,h2,h3,h4⟩:=Tq h (eE f);have hk:=(ai.1 h3).1;unfold j7;rw[h2,dD];obtain⟨a1,a2,a3⟩:=N9 h1 (n:=⟨0,[],[],k⟩) (.inl ⟨rfl,rfl,rfl,hk⟩);refine⟨a1,(ai.1 a2).1,λ nd hn hne=>?_,λ g hg hl=>?_⟩
 · rw[a2] at hn
   cases hn
   exact absurd rfl hne
 · refine⟨k,0,.leaf a2 rfl,?_⟩
   rw[a3,h3,hD f g hl.symm]
theorem Mf{f:Fc}{attr:Nat}(hf:f.length=10)(ha:attr<10)(c:Int):gg Z attr (cu Z attr f) c=cu Z (attr+1) (f.set attr c):=by
 rw[nV]
 have e:cu Z attr (f.set attr c)=cu Z attr f:=sk λ a h=>by unfold eO;rw[av,av,List.getElem?_set_ne ar]
 have e2:eO (f.set attr c) attr=c:=by unfold eO;rw[av,List.getElem?_set_self ar];rfl
 rw[e,e2];rfl
theorem FV(hD:∀f g,cu Z 10 f=cu Z 10 g->eE f=eE g){c:Nat->Nat}(hc:∀a live,(stA Z lim a live).length<=c a):∀(k:Nat),k<=10->∀(f:Fc)(s:Bs δ),f.length=10->zw Z lim eE s->
 (eZ Z lim eE k (cu Z (10 - k) f) f s).1.nodes.length<=20000->
 zw Z lim eE (eZ Z lim eE k (cu Z (10 - k) f) f s).1/\Made Z lim eE (eZ Z lim eE k (cu Z (10 - k) f) f s).1.nodes (eZ Z lim eE k (cu Z (10 - k) f) f s).1.leaves (cu Z (10 - k) f) (10 - k) (eZ Z lim eE k (cu Z (10 - k) f) f s).2
 |0,_,f,s,hf,hs,_=>Me hs hD f
 |k+1,hk,f,s,hf,hs,hz=>by
  have hka:10 - (k+1)=9 - k:=ar;rw[hka] at hz⊢;rcases h:s.made (cu Z (9 - k) f,9 - k) with _|n
  · by_cases h2:20000<s.nodes.length
    · rw[qG h h2] at hz
      exact absurd hz (by simpa using h2)
    · rw[rQ h h2] at hz⊢
      obtain⟨K,hK⟩:∃K,K=gF Z lim eE k (cu Z (9 - k) f) f (stA Z lim (9 - k) (cu Z (9 - k) f)) (s,[],[]):=⟨_,rfl⟩;rw[<-hK] at hz⊢
      have hKl:K.1.nodes.length<=20000:=by have h1:=(sM K (9 - k)).le;have h2:=(Dl (eN K (9 - k)).1 (cu Z (9 - k) f,9 - k) (eN K (9 - k)).2).le;have hz':(Dj (eN K (9 - k)).1 (cu Z (9 - k) f,9 - k) (eN K (9 - k)).2).nodes.length<=20000:=hz;omega
      obtain⟨p1,p2,p3⟩:=lU Z lim (9 - k) (cu Z (9 - k) f)
      have key:∀(S' S:List Int)(K0:Bs δ×List Int×List Nat),S++S'=stA Z lim (9 - k) (cu Z (9 - k) f)->zw Z lim eE K0.1->iR Z lim eE K0.1.nodes K0.1.leaves (stA Z lim (9 - k) (cu Z (9 - k) f)) (cu Z (9 - k) f) (9 - k) S.length K0.2.1 K0.2.2->
       (gF Z lim eE k (cu Z (9 - k) f) f S' K0).1.nodes.length<=20000->zw Z lim eE (gF Z lim eE k (cu Z (9 - k) f) f S' K0).1/\
       iR Z lim eE (gF Z lim eE k (cu Z (9 - k) f) f S' K0).1.nodes (gF Z lim eE k (cu Z (9 - k) f) f S' K0).1.leaves (stA Z lim (9 - k) (cu Z (9 - k) f)) (cu Z (9 - k) f) (9 - k) (S.length+S'.length) (gF Z lim eE k (cu Z (9 - k) f) f S' K0).2.1 (gF Z lim eE k (cu Z (9 - k) f) f S' K0).2.2:=by
       intro S';induction S' with
       |nil=>exact λ S K0 _ h1 h2 _=>⟨h1,h2⟩
       |cons c S' ih=>
        intro S K0 hS h1 h2 h3;have hs0:(stA Z lim (9 - k) (cu Z (9 - k) f))[S.length]?=O c:=by rw[<-hS,bP (ah _)];simp
        obtain⟨r,hr⟩:∃r,r=eZ Z lim eE k (gg Z (9 - k) (cu Z (9 - k) f) c) (f.set (9 - k) c) K0.1:=⟨_,rfl⟩;have e:gF Z lim eE k (cu Z (9 - k) f) f (c::S') K0=gF Z lim eE k (cu Z (9 - k) f) f S' (jX K0 c r):=by rw[hr];rfl
        rw[e] at h3⊢;have g1:=(yj (live:=cu Z (9 - k) f) (f:=f) (mr (eE:=eE) hc k) S' (jX K0 c r)).le;rw[rR] at g1
        have hlv:gg Z (9 - k) (cu Z (9 - k) f) c=cu Z (10 - k) (f.set (9 - k) c):=by
         rw[Mf hf ar];congr 1
         omega
        have uR:r.1.nodes.length<=20000:=ar;rw[hlv] at hr;rw[hr] at uR;obtain⟨q1,q2⟩:=FV hD hc k ar (f.set (9 - k) c) K0.1 (by simpa using hf) h1 uR;have hgr:=mr (eE:=eE) hc k (cu Z (10 - k) (f.set (9 - k) c)) (f.set (9 - k) c) K0.1;rw[<-hr] at q1 q2 hgr;rw[<-hlv] at q2;have Rj:10 - k=9 - k+1:=ar;rw[Rj] at q2;obtain⟨aai,hM,_⟩:=hgr.nodes;obtain⟨L,hL,_⟩:=hgr.leaves;have EH:=h2.more (aai:=aai) (K:=L);rw[<-hM,<-hL] at EH;have e2:S.length+(c::S').length=(S++[c]).length+S'.length:=by simp;omega
        rw[e2];refine ih (S++[c]) (jX K0 c r) (by rw[<-hS];simp) (by rw[rR];exact q1) ?_ h3;rw[rR];have e3:(S++[c]).length=S.length+1:=bY;rw[e3];unfold jX;rcases gO S.length with h0|h0
        · obtain⟨z1,z2⟩:=h2.zero h0
          rw[z1,z2] at EH⊢;rw[if_neg bY,if_pos rfl];rw[h0] at EH hs0⊢;exact EH.first hs0 q2
        · have hne:K0.2.2≠ []:=λ e=>by have :=h2.len h0;rw[e] at this;simp at this
          have xV:K0.2.2.getLast?=K0.2.2[K0.2.2.length - 1]?:=List.getLast?_eq_getElem?;by_cases FU:K0.2.2.getLast?=O r.2
          · rw[if_pos FU]
            exact EH.same h0 p1 hs0 (by rw[<-xV];exact FU) q2
          · rw[if_neg FU,if_neg hne]
            obtain⟨k0,Sd⟩:∃k0,K0.2.2.getLast?=O k0:=by
             cases hh:K0.2.2.getLast? with
             |none=>exact absurd (List.getLast?_eq_none_iff.1 hh) hne
             |some x=>exact⟨x,rfl⟩
            exact EH.next h0 p1 hs0 (by rw[<-xV];exact Sd) (λ e=>FU (by rw[Sd,e])) q2
      obtain⟨b1,b2⟩:=key (stA Z lim (9 - k) (cu Z (9 - k) f)) [] (s,[],[]) rfl hs (iR.start _ _ _ _ _) (by rw[<-hK];exact hKl);rw[<-hK] at b1 b2;rw[show([]:List Int).length+(stA Z lim (9 - k) (cu Z (9 - k) f)).length=(stA Z lim (9 - k) (cu Z (9 - k) f)).length from bY] at b2
      have sy:0<(stA Z lim (9 - k) (cu Z (9 - k) f)).length:=by obtain⟨r,hr⟩:=yi Z lim (9 - k) (cu Z (9 - k) f);rw[hr];simp
      have hlen:=b2.len sy
      have main:zw Z lim eE (eN K (9 - k)).1/\Made Z lim eE (eN K (9 - k)).1.nodes (eN K (9 - k)).1.leaves (cu Z (9 - k) f) (9 - k) (eN K (9 - k)).2:=by
       unfold eN;split
       · rename_i hgt
         have hF:tV lim K.1.nodes K.1.nodes.length K.1.leaves.length ⟨9 - k,K.2.1,K.2.2,0⟩:=by
          refine .inr ⟨by show 9 - k<10;omega,rfl,λ e=>?_,hlen,b2.sorted,λ c hcm=>?_,b2.apart,λ q hq=>?_⟩
          · have e':K.2.1=[]:=e
            rw[e'] at hlen;simp at hlen;omega
          · obtain⟨j,j0,j1,hj⟩:=b2.from_ c hcm
            have hm:=(p3 c).1 (az hj);have nA:=nC hm;obtain⟨r,hr⟩:=yi Z lim (9 - k) (cu Z (9 - k) f)
            have ajc:(atR lim (9 - k)).1<c:=by
             have hj':=ai.1 hj;have :=eG.1 p1 0 j sy hj'.1 j0;rw[hj'.2] at this;have e0:(stA Z lim (9 - k) (cu Z (9 - k) f))[0]?=O (atR lim (9 - k)).1:=by rw[hr];rfl
             rw[(ai.1 e0).2] at this;exact this
            refine⟨ajc,?_⟩;rcases nA.2 with e|e
            · omega
            · exact e
          · obtain⟨l,hl⟩:=b2.all q hq
            exact⟨hl.1,λ nk hn hne=>by have :=hl.2.1 nk hn hne;show 9 - k<nk.attr;omega⟩
         obtain⟨a1,a2,a3⟩:=N9 b1 hF;refine⟨a1,?_⟩;obtain⟨aai,hM,_⟩:=(B8 K.1 ⟨9 - k,K.2.1,K.2.2,0⟩).nodes;have b3:=b2.more (aai:=aai) (K:=[]);rw[<-hM,dU,<-a3] at b3;exact b3.node p1 p2 p3 ar a2 rfl rfl rfl
       · rename_i hgt
         obtain⟨q,hq⟩:∃q,K.2.2=[q]:=by have h1:K.2.2.length=1:=ar;exact List.length_eq_one_iff.1 h1
         refine⟨b1,?_⟩;show Made Z lim eE K.1.nodes K.1.leaves _ _ (K.2.2.headD 0);have e:K.2.2.headD 0=q:=by rw[hq];rfl
         rw[e];exact b2.one p1 p2 p3 ar hq
      refine⟨⟨main.1.ok,main.1.known,main.1.leaf,λ live a q hl=>?_⟩,main.2⟩;have hl':tL (eN K (9 - k)).1.made (cu Z (9 - k) f,9 - k) (eN K (9 - k)).2 (live,a)=O q:=hl;by_cases he:(live,a)=(cu Z (9 - k) f,9 - k)
      · rw[he,mq] at hl'
        cases hl'
        injection he with e1 e2
        rw[e1,e2];exact main.2
      · rw[nB _ _ he] at hl'
        exact main.1.made live a q hl'
  · rw[qF h]
    exact⟨hs,hs.made _ _ _ h⟩
end
def PX(c:UInt8):Prop:=48<=c.toNat/\c.toNat<=57
theorem Oa(u:Nat)(h:u<10):(UInt8.ofNat (48+u)).toNat=48+u:=by rw[UInt8.toNat_ofNat'];omega
theorem wz:∀(u:Nat),∀c∈Lib.decDigits u,PX c:=by
 intro u;induction u using Nat.strongRecOn with
 |_ u ih=>
  intro c hc;rw[Lib.decDigits] at hc;by_cases h:u<10
  · rw[dif_pos h,aN] at hc
    subst hc;unfold PX;rw[Oa u h];omega
  · rw[dif_neg h] at hc
    rcases bV.1 hc with hc|hc
    · exact ih (u / 10) ar c hc
    · rw[aN] at hc
      subst hc;unfold PX;rw[Oa _ ar];omega
def FW(l:List UInt8):Nat:=l.foldl (λ n c=>10*n+(c.toNat - 48)) 0
theorem uS:∀u,FW (Lib.decDigits u)=u:=by
 intro u;induction u using Nat.strongRecOn with
 |_ u ih=>
  rw[Lib.decDigits];by_cases h:u<10
  · rw[dif_pos h]
    unfold FW;simp only[List.foldl_cons,List.foldl_nil];rw[Oa u h];omega
  · rw[dif_neg h]
    unfold FW;rw[List.foldl_append];have :=ih (u / 10) ar;unfold FW at this;rw[this];simp only[List.foldl_cons,List.foldl_nil];rw[Oa _ ar];omega
theorem Tr{a b:Int}(h:Lib.itoa a=Lib.itoa b):a=b:=by
 unfold Lib.itoa at h
 have h45:∀u r,(45:UInt8)::r≠Lib.decDigits u:=λ u r e=>by have :=wz u 45 (by rw[<-e];simp);unfold PX at this;have e:(45:UInt8).toNat=45:=rfl;omega
 split at h<;>split at h
 · have h':Lib.decDigits a.natAbs=Lib.decDigits b.natAbs:=by injection h
   have :=congrArg FW h';rw[uS,uS] at this;omega
 · exact absurd h (h45 _ _)
 · exact absurd h.symm (h45 _ _)
 · have :=congrArg FW h
   rw[uS,uS] at this;omega
theorem B9(a:Int):∀c∈Lib.itoa a,c≠32/\c≠59:=λ c hc=>by
 have hd:PX c\/c=45:=by
  unfold Lib.itoa at hc;split at hc
  · rcases aR.1 hc with rfl|hc
    · exact .inr rfl
    · exact .inl (wz _ c hc)
  · exact .inl (wz _ c hc)
 rcases hd with hd|rfl
 · unfold PX at hd
   exact⟨λ e=>by subst e;have e:(32:UInt8).toNat=32:=rfl;omega,λ e=>by subst e;have e:(59:UInt8).toNat=59:=rfl;omega⟩
 · exact⟨cj,cj⟩
theorem FX{m:UInt8}:∀{a b r t:List UInt8},(∀c∈a,c≠m)->(∀c∈b,c≠m)->a++m::r=b++m::t->a=b/\r=t
 |[],[],r,t,_,_,h=>⟨rfl,by injection h⟩
 |[],c::b,r,t,_,h2,h=>by
  injection h with h1 _
  exact absurd h1.symm (h2 c bY)
 |c::a,[],r,t,h1,_,h=>by
  injection h with h2 _
  exact absurd h2 (h1 c bY)
 |c::a,d::b,r,t,h1,h2,h=>by
  injection h with e1 e2
  obtain⟨q1,q2⟩:=FX (λ x hx=>h1 x (by simp[hx])) (λ x hx=>h2 x (by simp[hx])) e2;exact⟨by rw[e1,q1],q2⟩
theorem sN(n:Int)(l:List Int):jn (n::l)=Lib.itoa n++32::jn l:=by simp[jn]
theorem FY:∀{l m:List Int}{r t:List UInt8},jn l++59::r=jn m++59::t->l=m/\r=t
 |[],[],r,t,h=>⟨rfl,by simpa [jn] using h⟩
 |[],b::m,r,t,h=>by
  rw[sN] at h;have h':(59:UInt8)::r=Lib.itoa b++(32::(jn m++59::t)):=by simpa [jn] using h
  cases e:Lib.itoa b with
  |nil=>rw[e] at h';simp at h'
  |cons c q=>
   rw[e] at h';injection h' with h1 _
   exact absurd h1.symm (B9 b c (by rw[e];simp)).2
 |a::l,[],r,t,h=>by
  rw[sN] at h;have h':Lib.itoa a++(32::(jn l++59::r))=(59:UInt8)::t:=by simpa [jn] using h
  cases e:Lib.itoa a with
  |nil=>rw[e] at h';simp at h'
  |cons c q=>
   rw[e] at h';injection h' with h1 _
   exact absurd h1 (B9 a c (by rw[e];simp)).2
 |a::l,b::m,r,t,h=>by
  rw[sN,sN] at h;have h':Lib.itoa a++32::(jn l++59::r)=Lib.itoa b++32::(jn m++59::t):=by simpa using h
  obtain⟨q1,q2⟩:=FX (λ c hc=>(B9 a c hc).1) (λ c hc=>(B9 b c hc).1) h';obtain⟨q3,q4⟩:=FY q2;exact⟨by rw[Tr q1,q3],q4⟩
theorem sO(l:List Int)(ls:List (List Int)):jE (l::ls)=jn l++59::jE ls:=by simp[jE]
theorem zx:∀{ls ms:List (List Int)},jE ls=jE ms->ls=ms
 |[],[],_=>rfl
 |[],m::ms,h=>by rw[sO] at h;simp[jE] at h
 |l::ls,[],h=>by rw[sO] at h;simp[jE] at h
 |l::ls,m::ms,h=>by
  rw[sO,sO] at h;obtain⟨q1,q2⟩:=FY h;rw[q1,zx q2]
def cV(l:List Nat):List Int:=l.map λ(n:Nat)=>(n:Int)
theorem zy:∀{l m:List Nat},cV l=cV m->l=m
 |[],[],_=>rfl
 |[],b::m,h=>by simp[cV] at h
 |a::l,[],h=>by simp[cV] at h
 |a::l,b::m,h=>by
  simp only[cV,aH,iq] at h;rw[zy h.2,show a=b from ar]
def yl(n:Nd):Lit:=.string (jE [n.cJ,cV n.kids,[(n.attr:Int),(n.leaf:Int)]])
def Mg(c:List Nat×Nat):Lit:=.string (jE [cV c.1,[(c.2:Int)]])
theorem J6:∀x y,yl x=yl y->x=y:=λ x y h=>by unfold yl at h;have h1:=zx (by injection h);obtain⟨a,b,c,d⟩:=x;obtain⟨a',b',c',d'⟩:=y;simp only[iq,and_true] at h1;obtain⟨e1,e2,e3,e4⟩:=h1;rw[zy e2,e1,show a=a' from ar,show d=d' from ar]
theorem Tt:∀x y,Mg x=Mg y->x=y:=λ x y h=>by unfold Mg at h;have h1:=zx (by injection h);obtain⟨a,b⟩:=x;obtain⟨a',b'⟩:=y;simp only[iq,and_true] at h1;rw[zy h1.1,show b=b' from ar]
end
section
open Go.RowKit
attribute [local go_sem] aQ aC bW
def jY(z:Zn):Array R:=(fL z).toArray
def iw(f:Fc):Array R:=(oI f).toArray
theorem n7{z:Zn}(h:z.length=10):(jY z).size=20:=by simp[jY,iy,h]
theorem pM{f:Fc}(h:f.length=10):(iw f).size=10:=by simp[iw,pc,h]
theorem iC{z:Zn}{k:Nat}(h:k<z.length):(jY z)[k*2]?=O (I J (atR z k).1)/\(jY z)[k*2+1]?=O (I J (atR z k).2):=by have :=pd (Nz h);simpa [jY] using this
theorem kQ{f:Fc}{k:Nat}(h:k<f.length):(iw f)[k]?=O (I J (eO f k)):=by simpa [iw] using Co (NA h)
theorem Tv{f:Fc}(hf:f.length=10){k:Nat}(hk:k<10)(w:agb):(Instr.index 31 (.agg (iw f)) (I J k)).run prog w=.ok (I J (eO f k)) w:=
 qT iu aJ rfl aV _ k hk _ (kQ ar) w
theorem Xx(z:Zn)(f:Fc)(fb:Nat)(w:agb)(hz:z.length=10)(hf:f.length=10)(hb:Bk w fb (iw f) 31):
 Calls prog 34 #[.agg (jY z),M (O ⟨fb,0,U⟩)] w (jL (.bool (rC z f)) w):=by
 obtain⟨r,hr⟩:∃r,rC z f=r:=⟨_,rfl⟩;rw[hr];have Hr:=aG hr;have Mi:=hb.below (aj w (D (jY z) 90));have HB:=aG Mi;have hP:=Bk.new w (jY z) 90;have HP:=aG hP;have hlt:=hP.lt;clear hr hb hP Mi;go_enter func34,ntmps34;go_wp2_with (refine dM (o:=⟨O 6,_,_,_,_,_⟩) rfl _ _ rfl fb 0 rfl (iw f) _ (λ j u h=>by rw[bX,HB.o.cell];exact h) iu rfl (by rw[pM hf];kernel_rfl) ?_);go_loop [7] (λ i=>∃k:Nat,k<=10/\i=I J k/\∀j,j<k->r8 (atR z j) (eO f j)=true) (λ i=>10 - (intOf i).toNat)
 case atStart=>exact⟨0,ar,rfl,λ j hj=>ar⟩
 case round=>
  obtain⟨k,hk,rfl,hall⟩:=hrel;have Xy:=aG hall;clear hall;by_cases J7:k<10
  · have Ob:=Tv hf J7
    have h1:(w.alloc (D (jY z) 90)).cell? ⟨w.heap.size,k*2,U⟩=O (I J (atR z k).1):=by rw[HP.o.cell];exact(iC ar).1
    have h2:(w.alloc (D (jY z) 90)).cell? ⟨w.heap.size,k*2+1,U⟩=O (I J (atR z k).2):=by rw[HP.o.cell];exact(iC ar).2
    have aaU:(k:Int)<10:=ar;by_cases lY:r8 (atR z k) (eO f k)=true
    · have aez:=lY
      simp only[r8,aD,decide_eq_true_eq] at aez;obtain⟨i1,i2⟩:=aez
      have Xz:Hid (∀j,j<k+1->r8 (atR z j) (eO f j)=true):=aG λ j hj=>by
       by_cases e:j=k
       · subst e;exact lY
       · exact Xy.o j ar
      clear lY;generalize(atR z k).1=lo at *;generalize(atR z k).2=hi at *;generalize eO f k=n at *;go_wp2_with fail;go_round
      case rel=>exact⟨k+1,ar,gC,Xz.o⟩
      case measure=>simp[intOf];omega
    · rw[Bool.not_eq_true] at lY
      obtain rfl:r=false:=by rw[<-Hr.o];exact Wx J7 lY
      have hno:eO f k<(atR z k).1\/(atR z k).2<eO f k:=by simp only[r8,Bool.and_eq_false_iff,decide_eq_false_iff_not] at lY;omega
      clear lY;generalize(atR z k).1=lo at *;generalize(atR z k).2=hi at *;generalize eO f k=n at *;rcases hno with hno|hno
      · go_wp2_with fail
        go_ret;exact⟨rfl,aj _ _⟩
      · by_cases h3:n<lo
        · go_wp2_with fail
          go_ret;exact⟨rfl,aj _ _⟩
        · have h4:lo<=n:=ar
          go_wp2_with fail;go_ret;exact⟨rfl,aj _ _⟩
  · obtain rfl:k=10:=ar
    obtain rfl:r=true:=by rw[<-Hr.o];exact Wy Xy.o
    go_wp2_with fail;go_ret;exact⟨rfl,aj _ _⟩
def Found(w:agb)(r:Bool)(e:Ending)(w':agb):Prop:=∃i:Int,e=.returned (I J i)/\aZ w w'/\(r=false->i= -1)/\(r=true->0<=i)
theorem pz{w:agb}{B:Nat}{A:dB}{zs:List Zn}(h:cG nM w B A zs){k:Nat}(hk:k<zs.length):
 ∃b off z,A=O ⟨b,off,U⟩/\b<B/\Hid (zs[k]?=O z)/\z.length=10/\Hid (∀j u,(jY z)[j]?=O u->w.cell? ⟨b,off+k*20+j,U⟩=O u):=by
 obtain⟨b,off,z,cs,hA,hb,_,hx,_,hr,hc⟩:=h.pick hk;obtain⟨rfl,hz,_⟩:=mG hr;exact⟨b,off,z,hA,hb,hx,hz,λ j u hu=>hc j u (by simpa [jY] using hu)⟩
theorem Dr{α:Type}{xs:List α}{k:Nat}{x:α}(p:α->Bool)(h:xs[k]?=O x):(xs.take (k+1)).any p=((xs.take k).any p||p x):=by rw[bu,h,kJ];simp
theorem J8(A:dB)(zs:List Zn)(cap:Nat)(f:Fc)(fb:Nat)(w:agb)(B:Nat)(h:cG nM w B A zs)(hB:B<=w.heap.size)(hl:zs.length<=9223372036854775807)(hf:f.length=10)(qI:Bk w fb (iw f) 31):
 Calls prog 80 #[G A zs.length cap,.func (.func 34) #[] #[M (O ⟨fb,0,U⟩)]] w (Found w (zs.any (λ z=>rC z f))):=by
 obtain⟨r,hr⟩:∃r,zs.any (λ z=>rC z f)=r:=⟨_,rfl⟩;rw[hr];have Hr:=aG hr;have HH:=aG h;have HFb:=aG qI;clear hr h;go_enter func80,ntmps80;go_wp2_with fail;go_loopw [8] (λ i wr=>∃(k:Nat),k<=zs.length/\i=I J k/\(zs.take k).any (λ z=>rC z f)=false/\aZ w wr) (λ i _=>zs.length - (intOf i).toNat)
 case atStart=>exact⟨0,ar,rfl,rfl,aA _ _⟩
 case round=>
  obtain⟨k,hk,rfl,qj,bI⟩:=hrel;have HX:=dt qj bI;have hbr:w.heap.size<=wr.heap.size:=bI.size;have hE:=HH.o.keep (bI.mono hB) (ah _);clear qj bI;by_cases hlt:k<zs.length
  · obtain⟨b,off,z,rfl,hb,Hk,hz,Hz⟩:=pz hE hlt
    have bw:b<wr.heap.size:=ar;have Hs:=aG (Dr (λ z=>rC z f) Hk.o);have HZ:=aG hz;clear hE hz;go_wp2_with (refine dM (o:=⟨O 15,_,_,_,_,_⟩) rfl _ _ rfl b (off+k*20) rfl (jY z) _ Hz.o iW rfl (by rw[n7 HZ.o];kernel_rfl) ?_);refine(Xx z f fb _ HZ.o hf (HFb.o.below HX.t1)).mono ?_;rintro e w2 ⟨rfl,hb2⟩;have HY:=aG (aq HX.t1 hb2);clear hb2;cases hp:(rC z f) with
    |true=>
     have hr2:r=true:=by rw[<-Hr.o,eD];exact⟨z,az Hk.o,hp⟩
     subst hr2;have Hp:=aG hp;clear hp;go_wp2_with fail;go_ret;exact⟨k,rfl,HY.o,(λ h=>by cases h),λ _=>ar⟩
    |false=>
     have Hp:=aG hp;clear hp;go_wp2_with fail;go_roundw
     case rel=>exact⟨k+1,ar,gC,by rw[Hs.o,HX.q1];show(false||(rC z f))=false;rw[Hp.o];rfl,HY.o⟩
     case measure=>simp[intOf];omega
  · obtain rfl:k=zs.length:=ar
    have hr2:r=false:=by rw[<-Hr.o];have :=HX.q1;rwa [aX] at this
    subst hr2;go_wp2_with fail;go_ret;exact⟨-1,rfl,HX.t1,λ _=>rfl,λ h=>by cases h⟩
theorem Ds(A:dB)(zs:List Zn)(cap:Nat)(f:Fc)(fb:Nat)(w:agb)(B:Nat)(h:cG nM w B A zs)(hB:B<=w.heap.size)(hl:zs.length<=9223372036854775807)(hf:f.length=10)(qI:Bk w fb (iw f) 31):
 Calls prog 30 #[G A zs.length cap,.func (.func 34) #[] #[M (O ⟨fb,0,U⟩)]] w (jL (.bool (zs.any (λ z=>rC z f))) w):=by
 have H:=aG (J8 A zs cap f fb w B h hB hl hf qI);obtain⟨r,hr⟩:∃r,zs.any (λ z=>rC z f)=r:=⟨_,rfl⟩;rw[hr] at H⊢;clear h hr;go_enter func30,ntmps30;go_wp2_with fail;refine H.o.mono ?_;rintro e w' ⟨i,rfl,hb,h1,h2⟩;have HX:=aG hb;cases r with
 |true=>
  have hi:=h2 rfl;clear h1 h2 hb;go_wp2_with fail;go_ret;exact⟨rfl,HX.o⟩
 |false=>
  obtain rfl:=h1 rfl;clear h1 h2 hb;go_wp2_with fail;go_ret;exact⟨rfl,HX.o⟩
def rlV(kd:Int)(nm:BA0)(A:dB)(n cap:Nat)(num rn rd sn sd:Int):Array R:=#[I J kd,.string nm,G A n cap,I J num,I J rn,I J rd,I J sn,I J sd]
theorem FZ(kd:Int)(nm:BA0)(A:dB)(zs:List Zn)(cap n:Nat)(num rn rd sn sd:Int)(f:Fc)(w:agb)(B:Nat)(h:cG nM w B A zs)(hB:B<=w.heap.size)(hn:zs.length=n)(hl:n<=9223372036854775807)(hf:f.length=10):
 Calls prog 11 #[.agg (rlV kd nm A n cap num rn rd sn sd),.agg (iw f)] w (jL (.bool (zs.any λ z=>rC z f)) w):=by
 subst hn;unfold rlV;have HH:=aG h;clear h;go_enter func11,ntmps11;go_wp2_with fail;refine(Ds A zs cap f (w.heap.size+1) _ B (HH.o.keep (((aA _ _).alloc hB _).alloc gW _) (ah _)) gW hl hf (au _ _ _ _ bY)).mono ?_;rintro e w' ⟨rfl,hb⟩;have HX:=aG hb;clear hb;go_wp2_with fail;go_ret;exact⟨rfl,(((aA _ w).alloc (ah _) _).alloc bY _).trans (HX.o.mono gW)⟩
def aP:Zn:=[(0,1000000000),(0,150),(0,1),(0,19),(0,7),(0,319),(0,3),(0,3),(1,12),(0,100)]
def Wd(r l:Rg):Bool:=decide (r.1<=r.2)&&decide (l.1<=r.1)&&decide (r.2<=l.2)
def zG(z:Zn):Bool:=(List.range 10).all λ i=>Wd (atR z i) (atR aP i)
def qJ(num den most:Int):Bool:=decide (1<=den)&&decide (den<=1000000)&&decide (0<=num)&&decide (num<=most*den)&&decide (num<=1000000)
def Ap(kd n rn rd sn sd:Int):Bool:=
 if kd=1 then decide (0<=n)&&decide (n<=100)
 else if kd=3 then decide (0<=n)&&decide (n<=10000000)&&qJ rn rd 1&&qJ sn sd 1
 else if kd=4 then qJ rn rd 10&&qJ sn sd 1
 else if kd=5 then qJ rn rd 1
 else decide (kd=2)||decide (kd=6)||decide (kd=7)
theorem XD{z:Zn}{k:Nat}(hk:k<10)(h:Wd (atR z k) (atR aP k)=false):zG z=false:=by unfold zG;rw[List.all_eq_false];exact⟨k,bG.2 hk,by rw[h];decide⟩
theorem Oc{z:Zn}(h:∀k,k<10->Wd (atR z k) (atR aP k)=true):zG z=true:=by unfold zG;exact cY.2 λ k hk=>h k (bG.1 hk)
theorem J9{z:Zn}(hz:z.length=10){k:Nat}(hk:k<10)(w:agb):(Instr.index 90 (.agg (jY z)) (I J k)).run prog w=.ok (.agg #[I J (atR z k).1,I J (atR z k).2]) w:=by
 have h:=ER (P:=prog) (m:=2) iW underlying88 rfl aV (jY z) k hk w;have hp:=iC (z:=z) (k:=k) ar;have hs:=n7 hz
 have e:(jY z).extract (k*2) (k*2+2)=#[I J (atR z k).1,I J (atR z k).2]:=by
  apply jt
  intro i;rw[Array.getElem?_extract];by_cases hi:i<2
  · rw[if_pos ar]
    rcases(show i=0\/i=1 from ar) with rfl|rfl
    · exact hp.1
    · exact hp.2
  · rw[if_neg ar,cI gW]
 rw[e] at h;exact h
theorem rS:aP.length=10:=rfl
theorem my:(prog.info? 90).map (·.size)=O (jY aP).size:=aV
theorem nD(w:agb):Calls prog 23 #[] w (jL (.agg (jY aP)) w):=by go_enter func23,ntmps23;go_wp2_with (refine fD (o:=⟨U,.store 90 _ _,_,_,_,_⟩) rfl _ _ _ rfl (jY aP) rfl rfl my rfl (ko aP) ?_);exact bodyPost_ret (v:=.agg (jY aP)) (results_cell_row rfl _ _ w.heap.size 90 (jY aP) (0,0) _ rfl (heap_alloc_new w _) iW rfl my) rfl ⟨rfl,aj _ _⟩
def Ka:List Int:=[1000000000,150,1,19,7,319,3,3,12,100]
def BL(k:Nat):Zn:=(List.range 10).map λ i=>(0,if i<k then eO Ka i else 0)
theorem Kb(k:Nat):(BL k).length=10:=by simp[BL]
theorem PZ:∀k,k<10->(BL k).set k (0,eO Ka k)=BL (k+1):=by decide+kernel
theorem XF:∀k,k<10->(atR (BL k) k).1=0:=by decide+kernel
theorem aa8{z:Zn}{k:Nat}(hk:k<z.length)(v:Int):(jY z).setIfInBounds (k*2+1) (I J v)=jY (z.set k ((atR z k).1,v)):=by
 have hl:(jY z).size=z.length*2:=by simp[jY,iy]
 have hl2:(jY (z.set k ((atR z k).1,v))).size=z.length*2:=by simp[jY,iy]
 apply jt
 intro j;by_cases hj:j<z.length*2
 · have hi:j / 2<z.length:=ar
   have h1:=iC (z:=z) hi;have h2:=iC (z:=z.set k ((atR z k).1,v)) (k:=j / 2) (by simpa using hi)
   have hat:atR (z.set k ((atR z k).1,v)) (j / 2)=if k=j / 2 then((atR z k).1,v) else atR z (j / 2):=by
    unfold atR;rw[av,iV];by_cases e:k=j / 2
    · simp[e,hi]
    · simp[e]
   rw[hat] at h2;rw[iv];rcases(show j=j / 2*2\/j=j / 2*2+1 from ar) with e9|e9
   · rw[if_neg ar]
     have a1:=h1.1;have a2:=h2.1;rw[<-e9] at a1 a2;rw[a1,a2];by_cases e:k=j / 2
     · simp[e]
     · simp[e]
   · have a1:=h1.2
     have a2:=h2.2;rw[<-e9] at a1 a2;by_cases e:k=j / 2
     · rw[if_pos ar,if_pos ar,a2,if_pos e]
     · rw[if_neg ar,a1,a2,if_neg e]
 · rw[cI gW,cI ar]
theorem ZA(w:agb):Calls prog 96 #[] w (jL (.agg (jY aP)) w):=by
 go_enter func96,ntmps96;go_upto_region 3 with(fail);refine forget (λ W=>Below w.heap.size w W/\Bk W w.heap.size (jY (BL 0)) 90/\Bk W (w.heap.size+1) (jY (BL 0)) 90/\Bk W (w.heap.size+2) (iw Ka) 3) ⟨dE,?_,?_,?_⟩ ?_
 · exact((Bk.new w _ _).alloc _).alloc _
 · exact(au _ _ _ _ bY).alloc _
 · exact au _ _ _ _ bY
 rintro W ⟨hw,b0,b1,b2⟩;have HW:=iM hw b0 b1 b2;generalize hg:w.heap.size=g at *;have Hg:=aG hg;clear hw b0 b1 b2 hg;go_wp2_with fail;go_loopw [3] (λ i wr=>∃(k:Nat),k<=10/\i=I J k/\Bk wr (g+1) (jY (BL k)) 90/\Only (λ b=>b=g+1) W wr) (λ i _=>10 - (intOf i).toNat)
 case atStart=>exact⟨0,ar,rfl,HW.q3,Only.refl _ _⟩
 case round=>
  obtain⟨k,hk,rfl,b1,pY⟩:=hrel;have b2:=HW.t3.only pY ar;have b0:=HW.q2.only pY ar;have HX:=iM b1 pY b2 b0;have lg:=b1.lt;have l2:=b2.lt;have l0:=b0.lt;clear b1 b2 b0 pY;by_cases hlt:k<10
  · have aaU:(k:Int)<10:=ar
    have c1:wr.cell? ⟨g+2,k,U⟩=O (I J (eO Ka k)):=by rw[HX.q3.cell];exact kQ (f:=Ka) hlt
    have c2:wr.cell? ⟨g+1,k*2+1,U⟩=O (I J (atR (BL k) k).2):=by rw[HX.q1.cell];exact(iC (by rw[Kb];omega)).2
    have f2:=HX.q1.free (k*2+1)
    have hst:Hid (Bk (wr.setCell ⟨g+1,k*2+1,U⟩ (I J (eO Ka k))) (g+1) (jY (BL (k+1))) 90):=by have h1:=HX.q1.aS (k*2+1) (I J (eO Ka k));rw[aa8 (by rw[Kb];omega),XF k hlt,PZ k hlt] at h1;exact h1
    generalize eO Ka k=hi at *;generalize(atR (BL k) k).2=old at *;go_wp2_with fail;go_roundw
    case rel=>exact⟨k+1,ar,gC,hst.o,HX.q2.aS (p:=⟨g+1,k*2+1,U⟩) (.inl rfl) _⟩
    case measure=>simp[intOf];omega
  · obtain rfl:k=10:=ar
    have c16:wr.cell? ⟨g+1,16,U⟩=O (I J 0):=by rw[HX.q1.cell];rfl
    have f16:=HX.q1.free 16;go_upto_region 8 with(fail);refine forget (λ X=>Bk X (g+1) (jY aP) 90/\Bk X g (jY (BL 0)) 90/\Below w.heap.size w X) ⟨HX.q1.aS 16 (I J 1),HX.t3.far bY _,?_⟩ ?_
    · have h1:=(HX.q2.aS (p:=⟨g+1,16,U⟩) (.inl rfl) (I J 1)).aK (B:=g) (λ b hb=>ar) (by have :=HW.q2.lt;omega)
      rw[Hg.o];exact HW.q1.trans h1
    rintro X ⟨b1,b0,hw⟩;have HY:=fH b1 b0 hw;clear HX HW c16 f16 lg l2 l0 b1 b0 hw
    go_wp2_with (first
     |(refine dM (o:=⟨O 20,_,_,_,_,_⟩) rfl _ _ rfl (g+1) 0 rfl (jY aP) _ (λ j u h=>by rw[bX,HY.q1.cell];exact h) iW rfl my ?_)
     |(refine eK (o:=⟨U,.store 90 _ _,_,_,_,_⟩) rfl _ _ _ rfl g (jY aP) rfl rfl HY.q2 my rfl (ko aP) ?_;intro X2 hb2 tI))
    exact bodyPost_ret (v:=.agg (jY aP)) (results_cell_row rfl _ _ g 90 (jY aP) (0,0) _ rfl hb2 iW rfl my) rfl ⟨rfl,HY.t2.trans (tI.aK (λ b hb=>by have :=Hg.o;omega) (by have :=HY.t2.size;omega))⟩
theorem Tw(num den most:Int)(w:agb)(hm:0<=most/\most<=10):Calls prog 79 #[.agg #[I J num,I J den],I J most] w (jL (.bool (qJ num den most)) w):=by
 obtain⟨m0,m1⟩:=hm;by_cases hd:1<=den/\den<=1000000
 · obtain⟨d1,d2⟩:=hd
   have p1:0<=most*den:=Int.mul_nonneg m0 ar;have p2:most*den<=10*1000000:=Int.mul_le_mul m1 d2 ar ar;go_enter func79,ntmps79;go_wp2_with fail
   all_goals go_ret
   all_goals exact⟨eu (by unfold qJ;rw[jc];simp;omega),aj _ _⟩
 · have hno:den<1\/(1<=den/\1000000<den):=ar
   have hf:qJ num den most=false:=by
    unfold qJ;rcases hno with h|⟨_,h⟩
    · rw[decide_eq_false (show ¬1<=den from ar)];simp
    · rw[decide_eq_false (show ¬den<=1000000 from ar)];simp
   rw[hf];clear hf hd;rcases hno with hno|⟨hno,Xm⟩
   all_goals
    go_enter func79,ntmps79;go_wp2_with fail
    all_goals go_ret
    all_goals exact⟨rfl,aj _ _⟩
theorem sP(r:Bool)(num den most:Int)(w:agb)(hm:0<=most/\most<=10)(h:Hid (qJ num den most=r)):Calls prog 79 #[.agg #[I J num,I J den],I J most] w (jL (.bool r) w):=by have :=Tw num den most w hm;rwa [h.o] at this
theorem Mj(z:Zn)(w:agb)(hz:z.length=10):Calls prog 32 #[.agg (jY z)] w (jL (.bool (zG z)) w):=by
 obtain⟨r,hr⟩:∃r,zG z=r:=⟨_,rfl⟩;rw[hr];have Hr:=aG hr;have HZ:=aG hz;clear hr hz;go_enter func32,ntmps32;go_wp2_with fail;refine(nD _).mono ?_;rintro e w1 ⟨rfl,hb⟩;have HB:=dt (aq (aj w _) hb) ((Bk.new w (jY z) 90).below hb);clear hb;go_upto_region 2 with(refine fD (o:=⟨U,.store 90 _ _,_,_,_,_⟩) rfl _ _ _ rfl (jY aP) rfl rfl my rfl (ko aP) ?_);refine forget (λ W=>Below w.heap.size w W/\Bk W w.heap.size (jY z) 90/\Bk W w1.heap.size (jY aP) 90) ⟨ay HB.q1 _,HB.t1.alloc _,Bk.new _ _ _⟩ ?_;rintro W ⟨hw,b0,b1⟩;have HW:=fH hw b0 b1;generalize w1.heap.size=g at *;clear hw b0 b1 HB;go_wp2_with (refine dM (o:=⟨O 7,_,_,_,_,_⟩) rfl _ _ rfl w.heap.size 0 rfl (jY z) _ (λ j u h=>by rw[bX,HW.q2.cell];exact h) iW rfl (by rw[n7 HZ.o];kernel_rfl) ?_);go_loopw [8] (λ i wr=>∃(k:Nat),k<=10/\i=I J k/\(∀j,j<k->Wd (atR z j) (atR aP j)=true)/\Below W.heap.size W wr) (λ i _=>10 - (intOf i).toNat)
 case atStart=>exact⟨0,ar,rfl,λ j hj=>ar,aA _ _⟩
 case round=>
  obtain⟨k,hk,rfl,hall,bI⟩:=hrel;have b1:=HW.t2.below bI;have HX:=dt hall bI;have lg:=b1.lt;have B1:=aG b1;have sA:Hid (Below w.heap.size w wr):=aq HW.q1 bI;clear hall bI b1;by_cases J7:k<10
  · have Ob:=J9 HZ.o J7
    have aaU:(k:Int)<10:=ar;have d1:∀C:Array R,(wr.alloc (D C 88)).cell? ⟨g,k*2,U⟩=O (I J (atR aP k).1):=λ C=>by rw[(B1.o.alloc _).cell];exact(iC (z:=aP) (show k<10 from ar)).1
    have d2:∀C:Array R,(wr.alloc (D C 88)).cell? ⟨g,k*2+1,U⟩=O (I J (atR aP k).2):=λ C=>by rw[(B1.o.alloc _).cell];exact(iC (z:=aP) (show k<10 from ar)).2
    have D1:=aG d1;have D2:=aG d2;clear d1 d2
    have Xz:Wd (atR z k) (atR aP k)=true->Hid (∀j,j<k+1->Wd (atR z j) (atR aP j)=true):=λ h=>aG λ j hj=>by
     by_cases e:j=k
     · subst e;exact h
     · exact HX.q1 j ar
    have HN:=aG Xz;have XG:Wd (atR z k) (atR aP k)=false->r=false:=λ h=>by rw[<-Hr.o];exact XD J7 h
    have HBd:=aG XG;have gU:Wd (atR z k) (atR aP k)=(decide ((atR z k).1<=(atR z k).2)&&decide ((atR aP k).1<=(atR z k).1)&&decide ((atR z k).2<=(atR aP k).2)):=rfl;rw[gU] at HN HBd;clear Xz XG gU;generalize(atR z k).1=lo at *;generalize(atR z k).2=hi at *;generalize(atR aP k).1=ll at *;generalize(atR aP k).2=lh at *;have e1:=D1.o #[I J lo,I J hi];have e2:=D2.o #[I J lo,I J hi]
    have hcs:(decide (hi<lo)=true)\/(decide (hi<lo)=false/\decide (lo<ll)=true)\/(decide (hi<lo)=false/\decide (lo<ll)=false/\decide (lh<hi)=true)\/(decide (hi<lo)=false/\decide (lo<ll)=false/\decide (lh<hi)=false):=by by_cases h1:hi<lo<;>by_cases h2:lo<ll<;>by_cases h3:lh<hi<;>simp[h1,h2,h3]
    rcases hcs with h1|⟨h1,h2⟩|⟨h1,h2,h3⟩|⟨h1,h2,h3⟩
    · obtain rfl:r=false:=HBd.o (by simp at h1⊢;omega)
      go_wp2_with fail;go_quiet (fail)
      go_wp2_with fail;go_ret;exact⟨rfl,below_drewN (ay sA.o _) _⟩
    · obtain rfl:r=false:=HBd.o (by simp at h1 h2⊢;omega)
      go_wp2_with fail;go_quiet (fail)
      go_wp2_with fail;go_ret;exact⟨rfl,below_drewN (ay sA.o _) _⟩
    · obtain rfl:r=false:=HBd.o (by simp at h1 h2 h3⊢;omega)
      go_wp2_with fail;go_quiet (fail)
      go_wp2_with fail;go_ret;exact⟨rfl,below_drewN (ay sA.o _) _⟩
    · have hn:=HN.o (by simp at h1 h2 h3⊢;omega)
      go_wp2_with fail;go_quiet (fail)
      go_wp2_with fail;go_roundw
      case rel=>exact⟨k+1,ar,gC,hn.o,below_drewN (ay HX.t1 _) _⟩
      case measure=>simp[intOf];omega
  · obtain rfl:k=10:=ar
    obtain rfl:r=true:=by rw[<-Hr.o];exact Oc HX.q1
    go_wp2_with fail;go_ret;exact⟨rfl,sA.o⟩
theorem Tx(z:Zn)(w:agb)(hz:z.length=10):Calls prog 31 #[.agg (jY z)] w (jL (.bool (!zG z)) w):=by
 obtain⟨r,hr⟩:∃r,zG z=r:=⟨_,rfl⟩;have H:=aG (Mj z (w.alloc (D (jY z) 90)) hz);have HP:=aG (Bk.new w (jY z) 90);rw[hr] at H⊢;have HZ:=aG hz;clear hr hz;go_enter func31,ntmps31;go_wp2_with (refine dM (o:=⟨O 3,_,_,_,_,_⟩) rfl _ _ rfl w.heap.size 0 rfl (jY z) _ (λ j u h=>by rw[bX,HP.o.cell];exact h) iW rfl (by rw[n7 HZ.o];kernel_rfl) ?_);refine H.o.mono ?_;rintro e w1 ⟨rfl,hb⟩;have HB:=aG (aq (aj w _) hb);clear hb;cases r
 all_goals
  go_wp2_with fail;go_ret;exact⟨rfl,HB.o⟩
def ql(x:BA0):Lit:=.string x.data.toList
theorem Dt:∀x y,ql x=ql y->x=y:=λ x y h=>by obtain⟨⟨a⟩⟩:=x;obtain⟨⟨b⟩⟩:=y;simp only[ql,Lit.string.injEq] at h;rw[h]
theorem lV:Go.Maps.Keyed prog 9:=Go.Maps.string_keyed bn
theorem Tz{x:BA0}(h:x.size<=maxLen):keyOf prog 9 (.string x)=O (ql x):=by exact WideMaps.keyOf_string_mk bn h
theorem aeA(w:agb):(zeroValue 4).run prog w=.ok (.bool false) w:=aV
theorem Kc(kd:Int)(nm:BA0)(A:dB)(n cap:Nat)(num rn rd sn sd:Int)(w:agb):
 Calls prog 29 #[.agg #[I J kd,.string nm,G A n cap,I J num,I J rn,I J rd,I J sn,I J sd]] w (jL (.bool (Ap kd num rn rd sn sd)) w):=by
 obtain⟨m1,tu⟩:∃v,qJ rn rd 1=v:=⟨_,rfl⟩;obtain⟨m2,tH⟩:∃v,qJ sn sd 1=v:=⟨_,rfl⟩;obtain⟨m3,Aq⟩:∃v,qJ rn rd 10=v:=⟨_,rfl⟩;obtain⟨aap,hR⟩:∃v,Ap kd num rn rd sn sd=v:=⟨_,rfl⟩;rw[hR];have hR2:=hR.symm;unfold Ap at hR2;rw[tu,tH,Aq] at hR2;have H1:=aG tu;have H2:=aG tH;have H3:=aG Aq;have HR:=aG hR2;clear tu tH Aq hR hR2;by_cases k1:kd=1
 · subst k1
   have XH:aap=(decide (0<=num)&&decide (num<=100)):=HR.o;have HR9:=aG XH;clear HR XH;go_enter func29,ntmps29;go_wp2_with fail
   all_goals go_ret
   all_goals exact⟨eu (by rw[HR9.o,jc];simp;omega),aj _ _⟩
 by_cases k3:kd=3
 · subst k3
   have XH:aap=(decide (0<=num)&&decide (num<=10000000)&&m1&&m2):=HR.o;have HR9:=aG XH;clear HR XH;by_cases hn:0<=num/\num<=10000000
   · obtain⟨n1,n2⟩:=hn
     cases m1
     · go_enter func29,ntmps29
       go_wp2_with (go_at_call 79;refine(sP _ _ _ 1 _ ar H1).mono ?_;rintro e w' ⟨rfl,hb⟩;(first|(obtain⟨u,rfl⟩:=gI hb;clear hb)|(obtain⟨u,rfl⟩:=ep hb;clear hb)|(obtain⟨u,rfl⟩:=dV hb;clear hb)));go_ret;exact⟨eu (by rw[HR9.o];simp),dE⟩
     · go_enter func29,ntmps29
       go_wp2_with fail;refine(sP _ _ _ 1 _ ar H1).mono ?_;rintro e w' ⟨rfl,hb⟩;(first|(obtain⟨u,rfl⟩:=gI hb;clear hb)|(obtain⟨u,rfl⟩:=ep hb;clear hb)|(obtain⟨u,rfl⟩:=dV hb;clear hb))
       go_wp2_with fail;refine(sP _ _ _ 1 _ ar H2).mono ?_;rintro e w' ⟨rfl,hb⟩;(first|(obtain⟨u,rfl⟩:=gI hb;clear hb)|(obtain⟨u,rfl⟩:=ep hb;clear hb)|(obtain⟨u,rfl⟩:=dV hb;clear hb))
       go_wp2_with fail;go_ret;exact⟨eu (by rw[HR9.o];simp;try omega),dE⟩
   · have hno:num<0\/(0<=num/\10000000<num):=ar
     have hf:aap=false:=by
      rw[HR9.o];rcases hno with h|⟨_,h⟩
      · rw[decide_eq_false (show ¬0<=num from ar)];simp
      · rw[decide_eq_false (show ¬num<=10000000 from ar)];simp
     subst hf;clear hn HR9;rcases hno with hno|⟨hno,Xm⟩
     all_goals
      go_enter func29,ntmps29;go_wp2_with fail;go_ret;exact⟨rfl,aj _ _⟩
 by_cases k4:kd=4
 · subst k4
   have XH:aap=(m3&&m2):=HR.o;subst XH;cases m3
   · go_enter func29,ntmps29
     go_wp2_with (go_at_call 79;refine(sP _ _ _ 10 _ ar H3).mono ?_;rintro e w' ⟨rfl,hb⟩;(first|(obtain⟨u,rfl⟩:=gI hb;clear hb)|(obtain⟨u,rfl⟩:=ep hb;clear hb)|(obtain⟨u,rfl⟩:=dV hb;clear hb)));go_ret;exact⟨rfl,dE⟩
   · go_enter func29,ntmps29
     go_wp2_with fail;refine(sP _ _ _ 10 _ ar H3).mono ?_;rintro e w' ⟨rfl,hb⟩;(first|(obtain⟨u,rfl⟩:=gI hb;clear hb)|(obtain⟨u,rfl⟩:=ep hb;clear hb)|(obtain⟨u,rfl⟩:=dV hb;clear hb))
     go_wp2_with fail;refine(sP _ _ _ 1 _ ar H2).mono ?_;rintro e w' ⟨rfl,hb⟩;(first|(obtain⟨u,rfl⟩:=gI hb;clear hb)|(obtain⟨u,rfl⟩:=ep hb;clear hb)|(obtain⟨u,rfl⟩:=dV hb;clear hb))
     go_wp2_with fail;go_ret;exact⟨eu bY,dE⟩
 by_cases k5:kd=5
 · subst k5
   obtain rfl:aap=m1:=HR.o;go_enter func29,ntmps29;go_wp2_with (go_at_call 79;refine(sP _ _ _ 1 _ ar H1).mono ?_;rintro e w' ⟨rfl,hb⟩;(first|(obtain⟨u,rfl⟩:=gI hb;clear hb)|(obtain⟨u,rfl⟩:=ep hb;clear hb)|(obtain⟨u,rfl⟩:=dV hb;clear hb)));go_ret;exact⟨rfl,dE⟩
 have XH:aap=(decide (kd=2)||decide (kd=6)||decide (kd=7)):=by rw[HR.o,if_neg k1,if_neg k3,if_neg k4,if_neg k5]
 subst XH;clear HR;by_cases k2:kd=2
 · subst k2
   go_enter func29,ntmps29;go_wp2_with fail;go_ret;exact⟨rfl,aj _ _⟩
 by_cases k6:kd=6
 · subst k6
   go_enter func29,ntmps29;go_wp2_with fail;go_ret;exact⟨rfl,aj _ _⟩
 by_cases k7:kd=7
 · subst k7
   go_enter func29,ntmps29;go_wp2_with fail;go_ret;exact⟨rfl,aj _ _⟩
 go_enter func29,ntmps29;go_wp2_with fail;go_ret;exact⟨eu (by simp[k2,k6,k7]),aj _ _⟩
def zH(rs:List Rl)(c:BA0):Bool:=rs.any λ x=>decide (x.2.1=c)
def Kd(r:Rl):Bool:=!Ap r.1 r.2.2.2.1 r.2.2.2.2.1.1 r.2.2.2.2.1.2 r.2.2.2.2.2.1 r.2.2.2.2.2.2||decide (200<r.2.2.1.length)||r.2.2.1.any λ z=>!zG z
def Au(rs:List Rl)(k:Nat)(r:Rl):Bool:=zH (rs.take k) r.2.1||Kd r
def He(rs:List Rl)(k:Nat):Prop:=∀j,j<k->∀r,rs[j]?=O r->Au rs j r=false
def ur(rs:List Rl):Bool:=(List.range rs.length).all λ k=>match rs[k]? with |none=>true|some r=>!Au rs k r
def jg(rs:List Rl):Bool:=decide (rs.length<=200)&&ur rs
def Du(rs:List Rl):BA0->Option Bool:=λ c=>if zH rs c then O true else U
theorem P0{rs:List Rl}{k:Nat}{r:Rl}(h:rs[k]?=O r)(hb:Au rs k r=true):ur rs=false:=by unfold ur;rw[List.all_eq_false];refine⟨k,bG.2 (ai.1 h).1,?_⟩;rw[h];simp[hb]
theorem F4{rs:List Rl}(h:He rs rs.length):ur rs=true:=by unfold ur;rw[cY];intro k hk;have qq:=bG.1 hk;rw[af qq];simp[h k qq _ (af qq)]
theorem Ke{rs:List Rl}{k:Nat}{r:Rl}(h:He rs k)(hr:rs[k]?=O r)(hb:Au rs k r=false):He rs (k+1):=λ j hj r' Fv=>by
 by_cases e:j=k
 · subst e;rw[hr] at Fv;simp only[cQ] at Fv;rw[<-Fv];exact hb
 · exact h j ar r' Fv
theorem P1{rs:List Rl}{k:Nat}{r:Rl}(h:rs[k]?=O r)(c:BA0):zH (rs.take (k+1)) c=(zH (rs.take k) c||decide (r.2.1=c)):=by unfold zH;rw[bu,h,kJ];simp
theorem P2{rs:List Rl}{k:Nat}{r:Rl}(h:rs[k]?=O r):u7 (Du (rs.take k)) r.2.1 true=Du (rs.take (k+1)):=by
 funext c
 unfold u7 Du;rw[P1 h];by_cases e:c=r.2.1
 · subst e;simp
 · rw[if_neg e,decide_eq_false (λ h=>e h.symm),Bool.or_false]
theorem P3(rs:List Rl)(c:BA0):(Du rs c).getD false=zH rs c:=by unfold Du;cases zH rs c<;>rfl
theorem Dv(A:dB)(zs:List Zn)(cap:Nat)(w:agb)(B:Nat)(h:cG nM w B A zs)(hB:B<=w.heap.size)(hl:zs.length<=9223372036854775807):
 Calls prog 80 #[G A zs.length cap,.func (.func 31) #[] #[]] w (Found w (zs.any (λ z=>!zG z))):=by
 obtain⟨r,hr⟩:∃r,zs.any (λ z=>!zG z)=r:=⟨_,rfl⟩;rw[hr];have Hr:=aG hr;have HH:=aG h;clear hr h;go_enter func80,ntmps80;go_wp2_with fail;go_loopw [8] (λ i wr=>∃(k:Nat),k<=zs.length/\i=I J k/\(zs.take k).any (λ z=>!zG z)=false/\aZ w wr) (λ i _=>zs.length - (intOf i).toNat)
 case atStart=>exact⟨0,ar,rfl,rfl,aA _ _⟩
 case round=>
  obtain⟨k,hk,rfl,qj,bI⟩:=hrel;have HX:=dt qj bI;have hbr:w.heap.size<=wr.heap.size:=bI.size;have hE:=HH.o.keep (bI.mono hB) (ah _);clear qj bI;by_cases hlt:k<zs.length
  · obtain⟨b,off,z,rfl,hb,Hk,hz,Hz⟩:=pz hE hlt
    have bw:b<wr.heap.size:=ar;have Hs:=aG (Dr (λ z=>!zG z) Hk.o);have HZ:=aG hz;clear hE hz;go_wp2_with (refine dM (o:=⟨O 15,_,_,_,_,_⟩) rfl _ _ rfl b (off+k*20) rfl (jY z) _ Hz.o iW rfl (by rw[n7 HZ.o];kernel_rfl) ?_);refine(Tx z _ HZ.o).mono ?_;rintro e w2 ⟨rfl,hb2⟩;have HY:=aG (aq HX.t1 hb2);clear hb2;cases hp:(!zG z) with
    |true=>
     have hr2:r=true:=by rw[<-Hr.o,eD];exact⟨z,az Hk.o,hp⟩
     subst hr2;have Hp:=aG hp;clear hp;go_wp2_with fail;go_ret;exact⟨k,rfl,HY.o,(λ h=>by cases h),λ _=>ar⟩
    |false=>
     have Hp:=aG hp;clear hp;go_wp2_with fail;go_roundw
     case rel=>exact⟨k+1,ar,gC,by rw[Hs.o,HX.q1];show(false||(!zG z))=false;rw[Hp.o];rfl,HY.o⟩
     case measure=>simp[intOf];omega
  · obtain rfl:k=zs.length:=ar
    have hr2:r=false:=by rw[<-Hr.o];have :=HX.q1;rwa [aX] at this
    subst hr2;go_wp2_with fail;go_ret;exact⟨-1,rfl,HX.t1,λ _=>rfl,λ h=>by cases h⟩
theorem yn(A:dB)(zs:List Zn)(cap:Nat)(w:agb)(B:Nat)(h:cG nM w B A zs)(hB:B<=w.heap.size)(hl:zs.length<=9223372036854775807):
 Calls prog 30 #[G A zs.length cap,.func (.func 31) #[] #[]] w (jL (.bool (zs.any (λ z=>!zG z))) w):=by
 have H:=aG (Dv A zs cap w B h hB hl);obtain⟨r,hr⟩:∃r,zs.any (λ z=>!zG z)=r:=⟨_,rfl⟩;rw[hr] at H⊢;clear h hr;go_enter func30,ntmps30;go_wp2_with fail;refine H.o.mono ?_;rintro e w' ⟨i,rfl,hb,h1,h2⟩;have HX:=aG hb;cases r with
 |true=>
  have hi:=h2 rfl;clear h1 h2 hb;go_wp2_with fail;go_ret;exact⟨rfl,HX.o⟩
 |false=>
  obtain rfl:=h1 rfl;clear h1 h2 hb;go_wp2_with fail;go_ret;exact⟨rfl,HX.o⟩
def Kf(w:agb)(mb m:Nat)(f:BA0->Option Bool)(r:Rl)(e:Ending)(w':agb):Prop:=
 e=.returned (.bool ((f r.2.1).getD false||Kd r))/\∃m':Nat,iI ql prog 9 4 w' mb m' (u7 f r.2.1 true)/\m'<=m+1/\Only (λ g=>g=mb) w w'
theorem iI.ne{κ:Type}{lit:κ->Lit}{P:Program}{k e t:TypeId}{w:agb}{mb m qb:Nat}{f:κ->Option Bool}{C:Array R}(h:iI lit P k e w mb m f)(hk:Bk w qb C t):qb≠mb:=by intro e;subst e;obtain⟨aak,⟨es,clock,hb,_⟩,_⟩:=h;have :=hk.symm.trans hb;simp at this
theorem TA(kd:Int)(nm:BA0)(A:dB)(zs:List Zn)(cap:Nat)(num rn rd sn sd:Int)(w:agb)(B sb mb m:Nat)(f:BA0->Option Bool)(hs:Bk w sb #[.map (O mb)] 102)(hm:iI ql prog 9 4 w mb m f)
 (EY:m<=1000)(hn:nm.size<=maxLen)(h:cG nM w B A zs)(hB:B<=w.heap.size)(hBm:B<=mb)(hl:zs.length<=9223372036854775807):
 Calls prog 28 #[.agg #[I J kd,.string nm,G A zs.length cap,I J num,I J rn,I J rd,I J sn,I J sd],M (O ⟨sb,0,U⟩)] w (Kf w mb m f (kd,nm,zs,num,(rn,rd),(sn,sd))):=by
 have EU:=hm.ne hs;have cs:w.cell? ⟨sb,0,U⟩=O (.map (O mb)):=hs.cell 0;have ls:=hs.lt;have lm:=hm.lt;have HM:=aG (hm.below (aj w (D #[I J kd,.string nm,G A zs.length cap,I J num,I J rn,I J rd,I J sn,I J sd] 48)));have HP:=aG (Bk.new w #[I J kd,.string nm,G A zs.length cap,I J num,I J rn,I J rd,I J sn,I J sd] 48);have HE:=aG h;obtain⟨ag,hag⟩:∃v,(f nm).getD false=v:=⟨_,rfl⟩;obtain⟨nb,nS⟩:∃v,Ap kd num rn rd sn sd=v:=⟨_,rfl⟩;obtain⟨zb,hzb⟩:∃v,(zs.any λ z=>!zG z)=v:=⟨_,rfl⟩;have mP:Kd (kd,nm,zs,num,(rn,rd),(sn,sd))=(!nb||decide (200<zs.length)||zb):=by rw[<-nS,<-hzb];rfl
 have Hag:=aG hag;have Hnb:=aG nS;have Hzb:=aG hzb;have XG:=aG mP;have hml:m<maxLen:=by unfold maxLen;omega
 have ZB:∀W,Calls prog 29 #[.agg #[I J kd,.string nm,G A zs.length cap,I J num,I J rn,I J rd,I J sn,I J sd]] W (jL (.bool nb) W):=λ W=>(Kc kd nm A zs.length cap num rn rd sn sd W).mono λ e w' ⟨he,hw⟩=>⟨by rw[he,Hnb.o],hw⟩
 have TB:=aG ZB;have pY:Hid (∀w2,Only (λ g=>g=mb) (w.alloc (D #[I J kd,.string nm,G A zs.length cap,I J num,I J rn,I J rd,I J sn,I J sd] 48)) w2->Only (λ g=>g=mb) w w2):=aG λ w2 ho=>((Only.refl _ w).alloc _).trans ho;have Th:Hid ((if(f nm).isSome then m else m+1)<=m+1):=aG (by split<;>omega);clear hag nS hzb mP ZB hs hm h;unfold maxLen at hn
 have sA:Hid (∀(w2 w3:agb)(e:Ending),iI ql prog 9 4 w2 mb (if(f nm).isSome then m else m+1) (u7 f nm true)->Only (λ g=>g=mb) w w2->aZ w2 w3->e=.returned (.bool (ag||(!nb||decide (200<zs.length)||zb)))->Kf w mb m f (kd,nm,zs,num,(rn,rd),(sn,sd)) e w3):=aG λ w2 w3 e h1 h2 h3 h4=>⟨by rw[h4,XG.o];show _=Ending.returned (.bool ((f nm).getD false||_));rw[Hag.o],_,h1.below h3,Th.o,h2.trans (aw h3)⟩
 go_enter func28,ntmps28
 go_upto_region 3 with(first
  |(at_lookup;refine mg rfl _ _ _ rfl 9 4 lV mE dW (aeA _) rfl HM.o _ nm rfl (Tz (by unfold maxLen;exact hn)) ?_;rw[Hag.o])
  |(at_mapUpdate;refine lT rfl _ _ _ _ rfl 9 4 lV mE dW Dt hml rfl HM.o _ nm rfl (Tz (by unfold maxLen;exact hn)) _ rfl ?_;intro w2 tH tI))
 have bp2:=HP.o.only tI ar;have ZC:cG nM w2 B A zs:=(HE.o.keep ((aj w _).mono hB) (ah _)).keep (tI.aK (B:=B) (λ g hg=>ar) gW) (ah _);have V1:B<=w2.heap.size:=by have :=tI.size;simp at this;omega
 have HQ:=iM bp2 tH (pY.o _ tI) ZC;obtain⟨cp,lp⟩:=bp2.cl0;clear bp2 tH tI ZC HM HP cs;cases ag
 · cases nb
   · go_wp2_with (go_at_call 29;refine(TB.o _).mono ?_;rintro e w' ⟨rfl,hb⟩;obtain⟨u,rfl⟩:=dV hb;clear hb)
     go_ret;exact sA.o w2 _ _ HQ.q2 HQ.q3 (aT _ _) bY
   · by_cases BK:200<zs.length
     · have TC:(200:Int)<(zs.length:Int):=ar
       go_wp2_with (go_at_call 29;refine(TB.o _).mono ?_;rintro e w' ⟨rfl,hb⟩;obtain⟨u,rfl⟩:=dV hb;clear hb);go_ret;exact sA.o w2 _ _ HQ.q2 HQ.q3 (aT _ _) (by simp[BK])
     · have TC:(zs.length:Int)<=200:=ar
       go_wp2_with (first
        |(go_at_call 29;refine(TB.o _).mono ?_;rintro e w' ⟨rfl,hb⟩;obtain⟨u,rfl⟩:=dV hb;clear hb)
        |(go_at_call 30;refine(yn A zs cap _ B (HQ.t3.ext V1 _) (bm V1 (ke _ _)) hl).mono ?_;rintro e w' ⟨rfl,hb⟩;rw[Hzb.o];obtain⟨u,rfl⟩:=gI hb;clear hb))
       go_ret;exact sA.o w2 _ _ HQ.q2 HQ.q3 (aT _ _) (by rw[decide_eq_false (show ¬(200:Int)<(zs.length:Int) from ar),decide_eq_false (show ¬200<zs.length from ar)];rfl)
 · go_wp2_with fail
   go_ret;exact sA.o w2 _ _ HQ.q2 HQ.q3 (aA _ _) rfl
theorem kA{w:agb}{B:Nat}{A:dB}{rs:List Rl}(h:cG se w B A rs){k:Nat}(hk:k<rs.length):
 ∃b off kd nm AZ zs zc num rn rd sn sd,A=O ⟨b,off,U⟩/\b<B/\Hid (rs[k]?=O (kd,nm,zs,num,(rn,rd),(sn,sd)))/\
  w.cell? ⟨b,off+k*8,U⟩=O (I J kd)/\w.cell? ⟨b,off+k*8+1,U⟩=O (.string nm)/\w.cell? ⟨b,off+k*8+2,U⟩=O (G AZ zs.length zc)/\w.cell? ⟨b,off+k*8+3,U⟩=O (I J num)/\
  w.cell? ⟨b,off+k*8+4,U⟩=O (I J rn)/\w.cell? ⟨b,off+k*8+5,U⟩=O (I J rd)/\w.cell? ⟨b,off+k*8+6,U⟩=O (I J sn)/\w.cell? ⟨b,off+k*8+7,U⟩=O (I J sd)/\
  nm.size<=maxLen/\zs.length<=zc/\zc<=maxLen/\cG nM w B AZ zs/\fits kd/\fits num:=by
 obtain⟨b,off,⟨kd,nm,zs,num,⟨rn,rd⟩,⟨sn,sd⟩⟩,cs,hA,hb,_,hx,_,⟨c1,r1,rfl,⟨rfl,h1⟩,⟨c2,r2,rfl,⟨rfl,h2⟩,⟨c3,r3,rfl,⟨AZ,zc,rfl,h3,h4,h5⟩,⟨c4,r4,rfl,⟨rfl,h6⟩,⟨c5,r5,rfl,⟨a1,b1,rfl,⟨rfl,_⟩,⟨rfl,_⟩⟩,⟨a2,b2,rfl,⟨rfl,_⟩,⟨rfl,_⟩⟩⟩⟩⟩⟩⟩,hc⟩:=h.pick hk;exact⟨b,off,kd,nm,AZ,zs,zc,num,rn,rd,sn,sd,hA,hb,hx,hc 0 _ rfl,hc 1 _ rfl,hc 2 _ rfl,hc 3 _ rfl,hc 4 _ rfl,hc 5 _ rfl,hc 6 _ rfl,hc 7 _ rfl,h2,h3,h4,h5,h1,h6⟩
def P4(w:agb)(mb:Nat)(rs:List Rl)(e:Ending)(w':agb):Prop:=
 ∃i:Int,e=.returned (I J i)/\Only (λ g=>g=mb) w w'/\(ur rs=true->i= -1)/\(ur rs=false->0<=i)
theorem Kg(A:dB)(rs:List Rl)(cap:Nat)(w:agb)(B sb mb:Nat)(h:cG se w B A rs)(hB:B<=w.heap.size)(hl:rs.length<=200)(hs:Bk w sb #[.map (O mb)] 102)
 (hm:iI ql prog 9 4 w mb 0 (λ _=>U))(hmB:B<=mb):
 Calls prog 81 #[G A rs.length cap,.func (.func 28) #[] #[M (O ⟨sb,0,U⟩)]] w (P4 w mb rs):=by
 have hsm:=hm.ne hs;have HQ:=dt hs hm;have HH:=aG h;have hl':(rs.length:Int)<=200:=ar;clear hs hm h;go_enter func81,ntmps81;go_wp2_with fail;go_loopw [8] (λ i wr=>∃(k m:Nat),k<=rs.length/\i=I J k/\He rs k/\Bk wr sb #[.map (O mb)] 102/\iI ql prog 9 4 wr mb m (Du (rs.take k))/\m<=k/\Only (λ g=>g=mb) w wr) (λ i _=>rs.length - (intOf i).toNat)
 case atStart=>exact⟨0,0,ar,rfl,λ j hj=>ar,HQ.q1,HQ.t1,ah _,Only.refl _ _⟩
 case round=>
  obtain⟨k,m,hk,rfl,hall,hbs,EK,Th,pY⟩:=hrel;have hE:=HH.o.keep (pY.aK (B:=B) (λ g hg=>ar) hB) (ah _);have HX:=iM hall hbs EK pY;have hBr:B<=wr.heap.size:=bm hB pY.size;clear hall hbs EK pY;by_cases hlt:k<rs.length
  · obtain⟨b,off,kd,nm,AZ,zs,zc,num,rn,rd,sn,sd,rfl,hb,Hk,c0,c1,c2,c3,c4,c5,c6,c7,f1,f2,f3,hZ,_,_⟩:=kA hE hlt
    have bw:b<wr.heap.size:=ar;have F1:=aG f1;have HZ:=aG hZ;have hzl:zs.length<=9223372036854775807:=by unfold maxLen at f3;omega
    clear hE f1 hZ;go_wp2_with fail;refine(TA kd nm AZ zs zc num rn rd sn sd wr B sb mb m _ HX.q2 HX.q3 ar F1.o HZ.o hBr hmB hzl).mono ?_;rintro e w2 ⟨rfl,m',EK,EY,pY⟩;rw[P3];have aeB:iI ql prog 9 4 w2 mb m' (Du (rs.take (k+1))):=by rw[<-P2 Hk.o];exact EK
    have HY:=fH aeB (HX.q2.only pY ar) pY;clear EK aeB pY;cases hL:Au rs k (kd,nm,zs,num,(rn,rd),(sn,sd)) with
    |false=>
     have HL:=aG hL;have hL2:(zH (rs.take k) nm||Kd (kd,nm,zs,num,(rn,rd),(sn,sd)))=false:=hL;rw[hL2];clear hL hL2;go_wp2_with fail;go_roundw
     case rel=>exact⟨k+1,m',ar,gC,Ke HX.q1 Hk.o HL.o,HY.q2,HY.q1,ar,HX.t3.trans HY.t2⟩
     case measure=>simp[intOf];omega
    |true=>
     have HL:=aG hL;have hL2:(zH (rs.take k) nm||Kd (kd,nm,zs,num,(rn,rd),(sn,sd)))=true:=hL;rw[hL2];clear hL hL2;go_wp2_with fail;go_ret;exact⟨k,rfl,HX.t3.trans HY.t2,λ h=>absurd ((P0 Hk.o HL.o).symm.trans h) cj,λ _=>ar⟩
  · obtain rfl:k=rs.length:=ar
    have Xy:=aG (F4 HX.q1);go_wp2_with fail;go_ret;exact⟨-1,rfl,HX.t3,λ _=>rfl,λ h=>absurd (Xy.o.symm.trans h) cj⟩
theorem Dw(A:dB)(rs:List Rl)(cap n:Nat)(w:agb)(B sb mb:Nat)(h:cG se w B A rs)(hB:B<=w.heap.size)(hn:rs.length=n)(hl:n<=200)(hs:Bk w sb #[.map (O mb)] 102)
 (hm:iI ql prog 9 4 w mb 0 (λ _=>U))(hmB:B<=mb):
 Calls prog 33 #[G A n cap,.func (.func 28) #[] #[M (O ⟨sb,0,U⟩)]] w λ e w'=>e=.returned (.bool (!ur rs))/\Only (λ g=>g=mb) w w':=by
 subst hn;have H:=aG (Kg A rs cap w B sb mb h hB hl hs hm hmB);obtain⟨r,hr⟩:∃r,ur rs=r:=⟨_,rfl⟩;have Hr:=aG hr;rw[hr];clear h hs hm hr;go_enter func33,ntmps33;go_wp2_with fail;refine H.o.mono ?_;rintro e w' ⟨i,rfl,pY,h1,h2⟩;have HX:=fH pY h1 h2;clear pY h1 h2;cases r with
 |true=>
  obtain rfl:=HX.q2 Hr.o;go_wp2_with fail;go_ret;exact⟨rfl,HX.q1⟩
 |false=>
  have hi:=HX.t2 Hr.o;go_wp2_with fail;go_ret;exact⟨rfl,HX.q1⟩
theorem uT(A:dB)(rs:List Rl)(cap n:Nat)(w:agb)(B:Nat)(h:cG se w B A rs)(hB:B<=w.heap.size)(hn:rs.length=n)(hl:n<=9223372036854775807):
 Calls prog 10 #[.agg #[G A n cap]] w (jL (.bool (jg rs)) w):=by
 obtain⟨r,hr⟩:∃r,ur rs=r:=⟨_,rfl⟩;have hv:jg rs=(decide (n<=200)&&r):=by unfold jg;rw[hr,hn]
 rw[hv];have Hr:=aG hr;have HH:=aG h;have Hn:=aG hn;have qf:= @run_makeMap prog;clear hr hv h hn;go_enter func10,ntmps10;go_upto_region 2 with(fail);refine forget (λ W=>aZ w W/\Bk W w.heap.size #[G A n cap] 38/\iI ql prog 9 4 W (w.heap.size+1) 0 (λ _=>U)/\Bk W (w.heap.size+2) #[.map (O (w.heap.size+1))] 102) ⟨?_,?_,?_,?_⟩ ?_
 · exact dE
 · exact((Bk.new w _ _).alloc _).alloc _
 · have h0:=iI.new ql prog 9 4 (w.alloc (D #[G A n cap] 38))
   have e0:(w.alloc (D #[G A n cap] 38)).heap.size=w.heap.size+1:=bY;rw[e0] at h0;exact h0.below (aj _ _)
 · exact au _ _ _ _ bY
 rintro W ⟨hw,b0,mp,b2⟩;have c0:W.cell? ⟨w.heap.size,0,U⟩=O (G A n cap):=b0.cell 0;have l0:=b0.lt;have HW:=fH hw mp b2;have HE:=aG (HH.o.keep (hw.mono hB) (ah _));have hBW:B<=W.heap.size:=bm hB hw.size;clear hw b0 mp b2 HH qf;by_cases BK:n<=200
 · have TC:(n:Int)<=200:=ar
   go_wp2_with fail;refine(Dw A rs cap n W B (w.heap.size+2) (w.heap.size+1) HE.o hBW Hn.o BK HW.t2 HW.q2 ar).mono ?_;rintro e w2 ⟨rfl,pY⟩;rw[Hr.o];have HO:=aG pY;clear pY;cases r
   all_goals
    go_wp2_with fail;go_ret;exact⟨eu (by simp[BK]),HW.q1.trans (HO.o.aK (λ g hg=>ar) ar)⟩
 · have TC:200<(n:Int):=ar
   go_wp2_with fail;go_ret;exact⟨eu (by simp;try omega),HW.q1⟩
structure JS where
 tg:Bool
 si:Bool
 lim:Int
 price:Int
 fn:Int
 fd:Int
 tn:Int
 td:Int
 cn:Int
 cd:Int
 sn:Int
 sd:Int
 rn:Int
 rd:Int
 pr:Bool
 so:Bool
 ba:Bool
 al:Int
 de:Int
def Mk(s:JS):Array R:=#[.bool false,.bool s.tg,.bool s.si,I J s.lim,I J s.price,I J s.fn,I J s.fd,I J s.tn,I J s.td,I J s.cn,I J s.cd,I J s.sn,I J s.sd,I J s.rn,I J s.rd,I J 0,.bool s.pr,.bool s.so,.bool s.ba,I J s.al,I J s.de]
def yo(s:JS)(i n:Int):JS:={s with al:=if s.al<0 then i else s.al,lim:=if 0<n/\(s.lim=0\/n<s.lim) then n else s.lim}
def sQ(s:JS)(i:Int):JS:={s with de:=if s.de<0 then i else s.de}
def Ml(s:JS)(n rn rd sn sd:Int):JS:=if s.pr then s else{s with pr:=true,price:=n,fn:=rn,fd:=rd,tn:=sn,td:=sd}
def Hh(s:JS)(rn rd sn sd:Int):JS:=if s.so then s else{s with so:=true,cn:=rn,cd:=rd,sn:=sn,sd:=sd}
def Hi(s:JS)(rn rd:Int):JS:=if s.ba then s else{s with ba:=true,rn:=rn,rd:=rd}
def Dx(w:agb)(jb:Nat)(s':JS)(e:Ending)(w':agb):Prop:=e=.returned (.tuple #[])/\Bk w' jb (Mk s') 139/\Only (λ g=>g=jb) w w'
section
variable(kd:Int)(nm:BA0)(A:dB)(n cap:Nat)(num rn rd sn sd i:Int)(w:agb)(jb:Nat)(s:JS)
theorem Mm(h:Bk w jb (Mk s) 139):
 Calls prog 47 #[M (O ⟨jb,0,U⟩),I J i,.agg #[I J kd,.string nm,G A n cap,I J num,I J rn,I J rd,I J sn,I J sd]] w (Dx w jb (sQ s i)):=by
 obtain⟨tg,si,lim,price,fn,fd,tn,td,cn,cd,xw,xz,xA,xB,pr,so,ba,al,de⟩:=s;have c20:w.cell? ⟨jb,20,U⟩=O (I J de):=h.cell 20;have f20:=h.free 20;have lj:=h.lt;have H:=aG h;clear h;by_cases h0:de<0
 · go_enter func47,ntmps47
   go_wp2_with fail;go_end0;refine⟨rfl,?_,GG⟩;have e:sQ ⟨tg,si,lim,price,fn,fd,tn,td,cn,cd,xw,xz,xA,xB,pr,so,ba,al,de⟩ i=⟨tg,si,lim,price,fn,fd,tn,td,cn,cd,xw,xz,xA,xB,pr,so,ba,al,i⟩:=by unfold sQ;simp[h0]
   rw[e];first|exact(H.o.alloc _).aS 20 _|exact(H.o.aS 20 _).alloc _
 · have h0':0<=de:=ar
   go_enter func47,ntmps47;go_wp2_with fail;go_end0;refine⟨rfl,?_,GG⟩;have e:sQ ⟨tg,si,lim,price,fn,fd,tn,td,cn,cd,xw,xz,xA,xB,pr,so,ba,al,de⟩ i=⟨tg,si,lim,price,fn,fd,tn,td,cn,cd,xw,xz,xA,xB,pr,so,ba,al,de⟩:=by unfold sQ;simp only;rw[if_neg ar]
   rw[e];exact H.o.alloc _
theorem Hl(vb:Nat)(h:Bk w jb (Mk s) 139)(hv:Bk w vb #[M (O ⟨jb,0,U⟩)] 137):
 Calls prog 51 #[I J i,.agg #[I J kd,.string nm,G A n cap,I J num,I J rn,I J rd,I J sn,I J sd],M (O ⟨vb,0,U⟩)] w (Dx w jb {s with tg:=true}):=by
 obtain⟨tg,si,lim,price,fn,fd,tn,td,cn,cd,xw,xz,xA,xB,pr,so,ba,al,de⟩:=s;have c1:w.cell? ⟨jb,1,U⟩=O (.bool tg):=h.cell 1;have f1:=h.free 1;have lj:=h.lt;have cv:w.cell? ⟨vb,0,U⟩=O (M (O ⟨jb,0,U⟩)):=hv.cell 0;have lv:=hv.lt;have H:=aG h;clear h hv;go_enter func51,ntmps51;go_wp2_with fail;go_end0;refine⟨rfl,?_,GG⟩;first|exact(H.o.alloc _).aS 1 _|exact(H.o.aS 1 _).alloc _
theorem Mn(vb:Nat)(h:Bk w jb (Mk s) 139)(hv:Bk w vb #[M (O ⟨jb,0,U⟩)] 137):
 Calls prog 52 #[I J i,.agg #[I J kd,.string nm,G A n cap,I J num,I J rn,I J rd,I J sn,I J sd],M (O ⟨vb,0,U⟩)] w (Dx w jb {s with si:=true}):=by
 obtain⟨tg,si,lim,price,fn,fd,tn,td,cn,cd,xw,xz,xA,xB,pr,so,ba,al,de⟩:=s;have c1:w.cell? ⟨jb,2,U⟩=O (.bool si):=h.cell 2;have f1:=h.free 2;have lj:=h.lt;have cv:w.cell? ⟨vb,0,U⟩=O (M (O ⟨jb,0,U⟩)):=hv.cell 0;have lv:=hv.lt;have H:=aG h;clear h hv;go_enter func52,ntmps52;go_wp2_with fail;go_end0;refine⟨rfl,?_,GG⟩;first|exact(H.o.alloc _).aS 2 _|exact(H.o.aS 2 _).alloc _
theorem Mo(h:Bk w jb (Mk s) 139):
 Calls prog 50 #[M (O ⟨jb,0,U⟩),I J i,.agg #[I J kd,.string nm,G A n cap,I J num,I J rn,I J rd,I J sn,I J sd]] w (Dx w jb (Hi s rn rd)):=by
 obtain⟨tg,si,lim,price,fn,fd,tn,td,cn,cd,xw,xz,xA,xB,pr,so,ba,al,de⟩:=s;have cF:w.cell? ⟨jb,18,U⟩=O (.bool ba):=h.cell 18;have lj:=h.lt;have H:=aG h;clear h;cases ba
 · go_enter func50,ntmps50
   go_upto_region 2 with(fail);refine forget (λ W=>Only (λ g=>g=jb) w W/\Bk W jb (Mk ⟨tg,si,lim,price,fn,fd,tn,td,cn,cd,xw,xz,xA,xB,pr,so,false,al,de⟩) 139/\Bk W w.heap.size #[I J kd,.string nm,G A n cap,I J num,I J rn,I J rd,I J sn,I J sd] 48) ⟨GG,H.o.alloc _,Bk.new _ _ _⟩ ?_;clear cF;rintro W ⟨ho,bj,bp⟩;have c18:W.cell? ⟨jb,18,U⟩=O (.bool false):=bj.cell 18;have f18:=bj.free 18;have c13:W.cell? ⟨jb,13,U⟩=O (I J xA):=bj.cell 13;have f13:=bj.free 13;have c14:W.cell? ⟨jb,14,U⟩=O (I J xB):=bj.cell 14;have f14:=bj.free 14;have d4:W.cell? ⟨w.heap.size,4,U⟩=O (I J rn):=bp.cell 4;have d5:W.cell? ⟨w.heap.size,5,U⟩=O (I J rd):=bp.cell 5;have hne:jb≠w.heap.size:=ar;have TD:w.heap.size≠jb:=ar;have lp:=bp.lt;have ljW:=bj.lt;have HW:=dt ho bj;clear ho bj bp H;generalize hg:w.heap.size=g at *;have Hg:=aG hg;clear hg;go_region
   all_goals go_wp2_with fail
   all_goals go_end0
   all_goals refine⟨rfl,?_,?_⟩
   all_goals first
    |exact(((HW.t1.aS 18 _).aS 13 _).aS 14 _).drew
    |(show Only _ _ _;have ho:=HW.q1;exact GG;done)
    |skip
 · go_enter func50,ntmps50
   go_wp2_with fail;go_end0;exact⟨rfl,H.o.alloc _,GG⟩
theorem Mp(h:Bk w jb (Mk s) 139):
 Calls prog 49 #[M (O ⟨jb,0,U⟩),I J i,.agg #[I J kd,.string nm,G A n cap,I J num,I J rn,I J rd,I J sn,I J sd]] w (Dx w jb (Hh s rn rd sn sd)):=by
 obtain⟨tg,si,lim,price,fn,fd,tn,td,cn,cd,xw,xz,xA,xB,pr,so,ba,al,de⟩:=s;have cF:w.cell? ⟨jb,17,U⟩=O (.bool so):=h.cell 17;have lj:=h.lt;have H:=aG h;clear h;cases so
 · go_enter func49,ntmps49
   go_upto_region 2 with(fail);refine forget (λ W=>Only (λ g=>g=jb) w W/\Bk W jb (Mk ⟨tg,si,lim,price,fn,fd,tn,td,cn,cd,xw,xz,xA,xB,pr,false,ba,al,de⟩) 139/\Bk W w.heap.size #[I J kd,.string nm,G A n cap,I J num,I J rn,I J rd,I J sn,I J sd] 48) ⟨GG,H.o.alloc _,Bk.new _ _ _⟩ ?_;clear cF;rintro W ⟨ho,bj,bp⟩;have c17:W.cell? ⟨jb,17,U⟩=O (.bool false):=bj.cell 17;have f17:=bj.free 17;have c9:W.cell? ⟨jb,9,U⟩=O (I J cn):=bj.cell 9;have f9:=bj.free 9;have c10:W.cell? ⟨jb,10,U⟩=O (I J cd):=bj.cell 10;have f10:=bj.free 10;have c11:W.cell? ⟨jb,11,U⟩=O (I J xw):=bj.cell 11;have f11:=bj.free 11;have c12:W.cell? ⟨jb,12,U⟩=O (I J xz):=bj.cell 12;have f12:=bj.free 12;have d4:W.cell? ⟨w.heap.size,4,U⟩=O (I J rn):=bp.cell 4;have d5:W.cell? ⟨w.heap.size,5,U⟩=O (I J rd):=bp.cell 5;have d6:W.cell? ⟨w.heap.size,6,U⟩=O (I J sn):=bp.cell 6;have d7:W.cell? ⟨w.heap.size,7,U⟩=O (I J sd):=bp.cell 7;have hne:jb≠w.heap.size:=ar;have TD:w.heap.size≠jb:=ar;have lp:=bp.lt;have ljW:=bj.lt;have HW:=dt ho bj;clear ho bj bp H;generalize hg:w.heap.size=g at *;have Hg:=aG hg;clear hg;go_region
   all_goals go_wp2_with fail
   all_goals go_end0
   all_goals refine⟨rfl,?_,?_⟩
   all_goals first
    |exact(((((HW.t1.aS 17 _).aS 9 _).aS 10 _).aS 11 _).aS 12 _).drew
    |(show Only _ _ _;have ho:=HW.q1;exact GG;done)
    |skip
 · go_enter func49,ntmps49
   go_wp2_with fail;go_end0;exact⟨rfl,H.o.alloc _,GG⟩
theorem P5(h:Bk w jb (Mk s) 139):
 Calls prog 48 #[M (O ⟨jb,0,U⟩),I J i,.agg #[I J kd,.string nm,G A n cap,I J num,I J rn,I J rd,I J sn,I J sd]] w (Dx w jb (Ml s num rn rd sn sd)):=by
 obtain⟨tg,si,lim,price,fn,fd,tn,td,cn,cd,xw,xz,xA,xB,pr,so,ba,al,de⟩:=s;have cF:w.cell? ⟨jb,16,U⟩=O (.bool pr):=h.cell 16;have lj:=h.lt;have H:=aG h;clear h;cases pr
 · go_enter func48,ntmps48
   go_upto_region 2 with(fail);refine forget (λ W=>Only (λ g=>g=jb) w W/\Bk W jb (Mk ⟨tg,si,lim,price,fn,fd,tn,td,cn,cd,xw,xz,xA,xB,false,so,ba,al,de⟩) 139/\Bk W w.heap.size #[I J kd,.string nm,G A n cap,I J num,I J rn,I J rd,I J sn,I J sd] 48) ⟨GG,H.o.alloc _,Bk.new _ _ _⟩ ?_;clear cF;rintro W ⟨ho,bj,bp⟩;have c16:W.cell? ⟨jb,16,U⟩=O (.bool false):=bj.cell 16;have f16:=bj.free 16;have c4:W.cell? ⟨jb,4,U⟩=O (I J price):=bj.cell 4;have f4:=bj.free 4;have c5:W.cell? ⟨jb,5,U⟩=O (I J fn):=bj.cell 5;have f5:=bj.free 5;have c6:W.cell? ⟨jb,6,U⟩=O (I J fd):=bj.cell 6;have f6:=bj.free 6;have c7:W.cell? ⟨jb,7,U⟩=O (I J tn):=bj.cell 7;have f7:=bj.free 7;have c8:W.cell? ⟨jb,8,U⟩=O (I J td):=bj.cell 8;have f8:=bj.free 8;have d3:W.cell? ⟨w.heap.size,3,U⟩=O (I J num):=bp.cell 3;have d4:W.cell? ⟨w.heap.size,4,U⟩=O (I J rn):=bp.cell 4;have d5:W.cell? ⟨w.heap.size,5,U⟩=O (I J rd):=bp.cell 5;have d6:W.cell? ⟨w.heap.size,6,U⟩=O (I J sn):=bp.cell 6;have d7:W.cell? ⟨w.heap.size,7,U⟩=O (I J sd):=bp.cell 7;have hne:jb≠w.heap.size:=ar;have TD:w.heap.size≠jb:=ar;have lp:=bp.lt;have ljW:=bj.lt;have HW:=dt ho bj;clear ho bj bp H;generalize hg:w.heap.size=g at *;have Hg:=aG hg;clear hg;go_region
   all_goals go_wp2_with fail
   all_goals go_end0
   all_goals refine⟨rfl,?_,?_⟩
   all_goals first
    |exact((((((HW.t1.aS 16 _).aS 4 _).aS 5 _).aS 6 _).aS 7 _).aS 8 _).drew
    |(show Only _ _ _;have ho:=HW.q1;exact GG;done)
    |skip
 · go_enter func48,ntmps48
   go_wp2_with fail;go_end0;exact⟨rfl,H.o.alloc _,GG⟩
theorem Mq(h:Bk w jb (Mk s) 139):
 Calls prog 46 #[M (O ⟨jb,0,U⟩),I J i,.agg #[I J kd,.string nm,G A n cap,I J num,I J rn,I J rd,I J sn,I J sd]] w (Dx w jb (yo s i num)):=by
 obtain⟨tg,si,lim,price,fn,fd,tn,td,cn,cd,xw,xz,xA,xB,pr,so,ba,al,de⟩:=s;obtain⟨al',xY⟩:∃x,(if al<0 then i else al)=x:=⟨_,rfl⟩;obtain⟨uu,BM⟩:∃x,(if 0<num/\(lim=0\/num<lim) then num else lim)=x:=⟨_,rfl⟩;have hR:yo ⟨tg,si,lim,price,fn,fd,tn,td,cn,cd,xw,xz,xA,xB,pr,so,ba,al,de⟩ i num=⟨tg,si,uu,price,fn,fd,tn,td,cn,cd,xw,xz,xA,xB,pr,so,ba,al',de⟩:=by unfold yo;rw[<-xY,<-BM]
 rw[hR];have c19:w.cell? ⟨jb,19,U⟩=O (I J al):=h.cell 19;have f19:=h.free 19;have lj:=h.lt;have H:=aG h;have Hal:=aG xY;have XI:=aG BM;clear h hR xY BM
 have main:∀(W:agb),(Only (λ g=>g=jb) w W/\Bk W jb (Mk ⟨tg,si,lim,price,fn,fd,tn,td,cn,cd,xw,xz,xA,xB,pr,so,ba,al',de⟩) 139/\Bk W w.heap.size #[I J kd,.string nm,G A n cap,I J num,I J rn,I J rd,I J sn,I J sd] 48)->
  Hid (W.cell? ⟨jb,3,U⟩=O (I J lim)/\W.frozen? ⟨jb,3,U⟩=false/\W.cell? ⟨w.heap.size,3,U⟩=O (I J num)/\jb<W.heap.size/\w.heap.size<W.heap.size):=λ W ⟨_,bj,bp⟩=>⟨bj.cell 3,bj.free 3,bp.cell 3,bj.lt,bp.lt⟩
 have Main:=aG main;clear main
 have aje:(al<0/\al'=i)\/(0<=al/\al'=al):=by
  have :=Hal.o;by_cases h0:al<0
  · rw[if_pos h0] at this;exact .inl ⟨h0,this.symm⟩
  · rw[if_neg h0] at this;exact .inr ⟨ar,this.symm⟩
 have hcs:(decide (0<num)=false)\/(decide (0<num)=true/\decide (lim=0)=true)\/(decide (0<num)=true/\decide (lim=0)=false/\decide (num<lim)=true)\/(decide (0<num)=true/\decide (lim=0)=false/\decide (num<lim)=false):=by by_cases h1:0<num<;>by_cases h2:lim=0<;>by_cases h3:num<lim<;>simp[h1,h2,h3]
 clear Hal;rcases aje with⟨h0,hq⟩|⟨h0,hq⟩
 all_goals
  have Hq:=aG hq;clear hq;rcases hcs with h1|⟨h1,h2⟩|⟨h1,h2,h3⟩|⟨h1,h2,h3⟩
  all_goals
   first
    |(have h9:(lim==0)=true:=by simpa using h2)
    |(have h9:(lim==0)=false:=by simpa using h2)
    |skip
   go_enter func46,ntmps46;go_upto_region 3 with(fail);refine forget (λ W=>Only (λ g=>g=jb) w W/\Bk W jb (Mk ⟨tg,si,lim,price,fn,fd,tn,td,cn,cd,xw,xz,xA,xB,pr,so,ba,al',de⟩) 139/\Bk W w.heap.size #[I J kd,.string nm,G A n cap,I J num,I J rn,I J rd,I J sn,I J sd] 48) ⟨GG,by rw[Hq.o];first|exact H.o.alloc _|exact(H.o.aS 19 _).alloc _,au _ _ _ _ bY⟩ ?_;rintro W hF;have hM:=(Main.o W hF).o;obtain⟨e1,e2,e3,e4,e5⟩:=hM;have HF:=aG hF;clear hF Main H c19 f19;go_quiet (fail)
   go_wp2_with fail;go_end0;refine⟨rfl,?_,by have ho:=HF.q1;exact GG⟩
  · obtain rfl:uu=lim:=by rw[<-XI.o,if_neg (by simp at h1;omega)]
    exact HF.q2
  · obtain rfl:uu=num:=by rw[<-XI.o,if_pos ⟨by simpa using h1,.inl (by simpa using h2)⟩]
    exact HF.q2.aS 3 _
  · obtain rfl:uu=num:=by rw[<-XI.o,if_pos ⟨by simpa using h1,.inr (by simpa using h3)⟩]
    exact HF.q2.aS 3 _
  · obtain rfl:uu=lim:=by rw[<-XI.o,if_neg (by simp at h1 h2 h3;omega)]
    exact HF.q2
end
end
section
open Go.RowKit
def Kh(s:JS)(i:Int)(r:Rl):JS:=
 if r.1=1 then yo s i r.2.2.2.1 else if r.1=2 then sQ s i else if r.1=3 then Ml s r.2.2.2.1 r.2.2.2.2.1.1 r.2.2.2.2.1.2 r.2.2.2.2.2.1 r.2.2.2.2.2.2
 else if r.1=4 then Hh s r.2.2.2.2.1.1 r.2.2.2.2.1.2 r.2.2.2.2.2.1 r.2.2.2.2.2.2 else if r.1=5 then Hi s r.2.2.2.2.1.1 r.2.2.2.2.1.2
 else if r.1=6 then{s with tg:=true} else if r.1=7 then{s with si:=true} else s
def Dy(f:Fc)(s:JS)(i:Int)(r:Rl):JS:=if oh r f then Kh s i r else s
def Dz:JS:=⟨false,false,0,0,0,1,0,1,0,1,0,1,0,1,false,false,false,-1,-1⟩
def dR(f:Fc)(rs:List Rl):Nat->JS
 |0=>Dz
 |k+1=>match rs[k]? with |some r=>Dy f (dR f rs k) k r|none=>dR f rs k
theorem uU{f:Fc}{rs:List Rl}{k:Nat}{r:Rl}(h:rs[k]?=O r):dR f rs (k+1)=Dy f (dR f rs k) k r:=by show(match rs[k]? with |some r=>Dy f (dR f rs k) k r|none=>dR f rs k)=_;rw[h]
def kF(al tg si:Bool)(lim price fn fd tn td cn cd sn sd rn rd y:Int):Array R:=#[.bool al,.bool tg,.bool si,I J lim,I J price,I J fn,I J fd,I J tn,I J td,I J cn,I J cd,I J sn,I J sd,I J rn,I J rd,I J y]
def IK(s:JS):Bool:=decide (0<=s.al)&&s.pr&&decide (s.de<0)
def TE(s:JS):Int:=if 0<=s.de then s.de else s.al
def vG(s:JS):Array R:=kF (IK s) s.tg s.si s.lim s.price s.fn s.fd s.tn s.td s.cn s.cd s.sn s.sd s.rn s.rd (TE s)
def kG(jb vb:Nat):List (Int×R):=
 [(1,.func (.func 46) #[M (O ⟨jb,0,U⟩)] #[]),(2,.func (.func 47) #[M (O ⟨jb,0,U⟩)] #[]),(3,.func (.func 48) #[M (O ⟨jb,0,U⟩)] #[]),
  (4,.func (.func 49) #[M (O ⟨jb,0,U⟩)] #[]),(5,.func (.func 50) #[M (O ⟨jb,0,U⟩)] #[]),(6,.func (.func 51) #[] #[M (O ⟨vb,0,U⟩)]),(7,.func (.func 52) #[] #[M (O ⟨vb,0,U⟩)])]
theorem pN(w:agb):(zeroValue 140).run prog w=.ok .nilFunc w:=aV
theorem TF(fn:Fn)(a c:Array R)(w:agb):(binOp .neq 140 (.func fn a c) .nilFunc).run prog w=.ok (.bool true) w:=aV
theorem XJ(w:agb):(binOp .neq 140 .nilFunc .nilFunc).run prog w=.ok (.bool false) w:=aV
theorem yq{f:Fc}(h:f.length=10):iw f=#[I J (eO f 0),I J (eO f 1),I J (eO f 2),I J (eO f 3),I J (eO f 4),I J (eO f 5),I J (eO f 6),I J (eO f 7),I J (eO f 8),I J (eO f 9)]:=by
 match f,h with
 |[_,_,_,_,_,_,_,_,_,_],_=>rfl
theorem Od{a:Bool}{tg si:Bool}{lim price fn fd tn td cn cd sn sd rn rd y:Int}{p q r:Bool}{al de:Int}{j:Nat}{u:R}(h:(kF a tg si lim price fn fd tn td cn cd sn sd rn rd y)[j]?=O u):
 (#[.bool a,.bool tg,.bool si,I J lim,I J price,I J fn,I J fd,I J tn,I J td,I J cn,I J cd,I J sn,I J sd,I J rn,I J rd,I J y,.bool p,.bool q,.bool r,I J al,I J de]:Array R)[j]?=O u:=by
 have e:(#[.bool a,.bool tg,.bool si,I J lim,I J price,I J fn,I J fd,I J tn,I J td,I J cn,I J cd,I J sn,I J sd,I J rn,I J rd,I J y,.bool p,.bool q,.bool r,I J al,I J de]:Array R)=kF a tg si lim price fn fd tn td cn cd sn sd rn rd y++#[.bool p,.bool q,.bool r,I J al,I J de]:=rfl;have hj:=(iX.1 h).1;rw[e,iU hj];exact h
theorem rT{a:Bool}{tg si:Bool}{lim price fn fd tn td cn cd sn sd rn rd y:Int}:(prog.info? 63).map (·.size)=O (kF a tg si lim price fn fd tn td cn cd sn sd rn rd y).size:=by show _=O 16;kernel_rfl
theorem yr{a:Bool}{tg si:Bool}{lim price fn fd tn td cn cd sn sd rn rd y:Int}:(kF a tg si lim price fn fd tn td cn cd sn sd rn rd y).all (·.oneCell')=true:=by rw[dJ];intro v hv;simp only[kF,List.mem_toArray,aR,bH,or_false] at hv;rcases hv with rfl|rfl|rfl|rfl|rfl|rfl|rfl|rfl|rfl|rfl|rfl|rfl|rfl|rfl|rfl|rfl<;>rfl
end
section
open Go.RowKit Go.Maps
theorem TG:laidOutB prog=true:=aV
theorem aa9:(63:TypeId)<prog.types.size:=of_decide_eq_true aV
theorem XK:(match prog.underlying 63 with |some (.array _ _)|some (.struct _)=>true|_=>false)=true:=aV
theorem zI:Keyed prog 63:=Keyed.of_law (deep_law_laid TG (m:=3) ar aa9 aV XK)
theorem TH{l:List UInt8}(h:l.length<=maxLen):keyOf prog 9 (.string ⟨l.toArray⟩)=O (.string l):=by have :=WideMaps.keyOf_string_mk (P:=prog) bn (s:=⟨l.toArray⟩) (by rw[tY];exact h);simpa using this
abbrev Dk:={c:List R // c.length=16/\(∀u∈c,u.oneCell'=true)/\(keyOf prog 63 (.agg c.toArray)).isSome=true}
noncomputable instance:DecidableEq Dk:=λ a b=>Classical.propDecidable (a=b)
noncomputable def yt(d:Dk):Lit:=(keyOf prog 63 (.agg d.1.toArray)).getD .nil
theorem uv(d:Dk):keyOf prog 63 (.agg d.1.toArray)=O (yt d):=by
 unfold yt;have h:=d.2.2.2;cases e:keyOf prog 63 (.agg d.1.toArray) with
 |none=>rw[e] at h;cases h
 |some l=>rfl
theorem Ki:∀x y,yt x=yt y->x=y:=λ x y h=>by have h1:=uv x;have h2:=uv y;rw[h] at h1;have :=zI.inj h1 h2;simp only[Value.agg.injEq] at this;have h3:=congrArg Array.toList this;exact Subtype.ext h3
def Hm:Ty Dk where
 n:=16
 rd:=λ _ _ cs d=>cs=d.1
 len:=by rintro _ _ _ d h;rw[h];exact d.2.1
 keep:=λ _ _ h=>h
abbrev vH:Ty (Int×List Int×List Int×Int):=fy dr (fy (eF dr) (fy (eF dr) dr))
def pA(n:Nd):Int×List Int×List Int×Int:=((n.attr:Int),n.cJ,cV n.kids,(n.leaf:Int))
def mQ{κ:Type}(f:κ->Option Nat):κ->Option Int:=λ c=>(f c).map λ(n:Nat)=>(n:Int)
theorem DA{κ:Type}[DecidableEq κ](f:κ->Option Nat)(c:κ)(v:Nat):mQ (tL f c v)=Dp (mQ f) c (v:Int):=by
 funext x
 unfold mQ tL Dp;split<;>rfl
theorem uV{κ:Type}(f:κ->Option Nat)(c:κ):(mQ f c).isSome=(f c).isSome:=by unfold mQ;cases f c<;>rfl
theorem TI{κ:Type}(f:κ->Option Nat)(c:κ):(mQ f c).getD 0=(((f c).getD 0:Nat):Int):=by unfold mQ;cases f c<;>rfl
structure TJ(F:Nat->Prop)(X:agb)(base bb:Nat)(vN vL:R)(kn md lf:Nat)(s:Bs Dk):Prop where
 box:Bk X bb #[vN,vL,.map (O kn),.map (O md),.map (O lf)] 115
 nodes:mz vH 121 F X base vN (s.nodes.map pA)
 leaves:cH Hm 63 X base 0 vL s.leaves
 known:jQ yl prog 9 3 X kn s.nk (mQ s.known)
 made:jQ Mg prog 9 3 X md s.nm (mQ s.made)
 leaf:jQ yt prog 63 3 X lf s.nl (mQ s.leaf)
 ints:∀g,F g->∃C,Bk X g C 3
 Rk:kn≠md/\kn≠lf/\md≠lf
def bS(F:Nat->Prop)(bb:Nat)(vN vL:R)(kn md lf:Nat):Nat->Prop:=λ g=>g=bb\/vN.ownBlock=O g\/vL.ownBlock=O g\/g=kn\/g=md\/g=lf\/F g
def xC(X:agb)(base bb:Nat)(S:Nat->Prop)(s:Bs Dk):Prop:=∃F vN vL kn md lf,TJ F X base bb vN vL kn md lf s/\∀g,S g↔bS F bb vN vL kn md lf g
theorem jQ.gY{κ:Type}{lit:κ->Lit}{P:Program}{k e:TypeId}{w:agb}{b m:Nat}{f:κ->Option Int}(h:jQ lit P k e w b m f){C:Array R}{t:TypeId}(hb:Bk w b C t):False:=by obtain⟨aak,⟨es,clock,hh,_⟩,_⟩:=h;have :=aO (hh.symm.trans hb);cases this
section
variable{F:Nat->Prop}{X X':agb}{base bb:Nat}{vN vL:R}{kn md lf:Nat}{s:Bs Dk}{S T:Nat->Prop}
theorem TJ.apart(h:TJ F X base bb vN vL kn md lf s):(∀g,vN.ownBlock=O g->g≠bb/\g≠kn/\g≠md/\g≠lf/\vL.ownBlock≠O g/\¬F g)/\(∀g,vL.ownBlock=O g->g≠bb/\g≠kn/\g≠md/\g≠lf/\¬F g)/\(bb≠kn/\bb≠md/\bb≠lf)/\(∀g,F g->g≠bb/\g≠kn/\g≠md/\g≠lf):=by
 have ht:∀{t t':TypeId}{g:Nat}{C C':Array R},Bk X g C t->Bk X g C' t'->t≠t'->False:=λ h1 h2 hn=>hn (fK h1 h2);refine⟨λ g hg=>?_,λ g hg=>?_,⟨λ e=>?_,λ e=>?_,λ e=>?_⟩,λ g hg=>?_⟩
 · obtain⟨C,hC⟩:=h.nodes.typed hg
   refine⟨λ e=>?_,λ e=>?_,λ e=>?_,λ e=>?_,λ e=>?_,λ e=>?_⟩
   · subst e;exact ht hC h.box cj
   · subst e;exact h.known.gY hC
   · subst e;exact h.made.gY hC
   · subst e;exact h.leaf.gY hC
   · obtain⟨css,_,_,hown⟩:=h.leaves
     obtain⟨C',Jz⟩:=gN hown e;exact ht hC Jz cj
   · obtain⟨C',Jz⟩:=h.ints g e
     exact ht hC Jz cj
 · obtain⟨css,_,_,hown⟩:=h.leaves
   obtain⟨C,hC⟩:=gN hown hg;refine⟨λ e=>?_,λ e=>?_,λ e=>?_,λ e=>?_,λ e=>?_⟩
   · subst e;exact ht hC h.box cj
   · subst e;exact h.known.gY hC
   · subst e;exact h.made.gY hC
   · subst e;exact h.leaf.gY hC
   · obtain⟨C',Jz⟩:=h.ints g e
     exact ht hC Jz cj
 · subst e;exact h.known.gY h.box
 · subst e;exact h.made.gY h.box
 · subst e;exact h.leaf.gY h.box
 · obtain⟨C,hC⟩:=h.ints g hg
   refine⟨λ e=>?_,λ e=>?_,λ e=>?_,λ e=>?_⟩
   · subst e;exact ht hC h.box cj
   · subst e;exact h.known.gY hC
   · subst e;exact h.made.gY hC
   · subst e;exact h.leaf.gY hC
theorem TJ.only(h:TJ F X base bb vN vL kn md lf s)(ho:Only T X X')(hT:∀g,T g->¬bS F bb vN vL kn md lf g):TJ F X' base bb vN vL kn md lf s:=by
 have hn:∀g,bS F bb vN vL kn md lf g->¬T g:=λ g h1 h2=>hT g h2 h1;refine⟨h.box.only ho (hn _ (.inl rfl)),h.nodes.only ho (λ g hg hf=>hT g hg (.inr (.inr (.inr (.inr (.inr (.inr hf))))))) (λ g hg=>hn g (.inr (.inl hg))),?_,h.known.only ho (hn _ (.inr (.inr (.inr (.inl rfl))))),h.made.only ho (hn _ (.inr (.inr (.inr (.inr (.inl rfl)))))),h.leaf.only ho (hn _ (.inr (.inr (.inr (.inr (.inr (.inl rfl))))))),λ g hg=>?_,h.Rk⟩
 · exact h.leaves.only ho (λ _ _=>ak _) (ak _) (λ g hg=>hn g (.inr (.inr (.inl hg))))
 · obtain⟨C,hC⟩:=h.ints g hg
   exact⟨C,hC.only ho (hn g (.inr (.inr (.inr (.inr (.inr (.inr hg)))))))⟩
theorem TJ.lt(h:TJ F X base bb vN vL kn md lf s):∀g,bS F bb vN vL kn md lf g->g<X.heap.size:=λ g hg=>by
 rcases hg with rfl|hg|hg|rfl|rfl|rfl|hg
 · exact h.box.lt
 · exact(h.nodes.lt g hg).2
 · exact(h.leaves.lt g hg).2
 · exact h.known.lt
 · exact h.made.lt
 · exact h.leaf.lt
 · obtain⟨C,hC⟩:=h.ints g hg
   exact hC.lt
theorem xC.only(h:xC X base bb S s)(ho:Only T X X')(hT:∀g,T g->¬S g):xC X' base bb S s:=by obtain⟨F,vN,vL,kn,md,lf,h1,h2⟩:=h;exact⟨F,vN,vL,kn,md,lf,h1.only ho (λ g hg hb=>hT g hg ((h2 g).2 hb)),h2⟩
theorem xC.below(h:xC X base bb S s)(hb:aZ X X'):xC X' base bb S s:=h.only (T:=λ _=>False) (aw hb) (λ _ h=>h.elim)
theorem xC.lt(h:xC X base bb S s):∀g,S g->g<X.heap.size:=λ g hg=>by obtain⟨F,vN,vL,kn,md,lf,h1,h2⟩:=h;exact h1.lt g ((h2 g).1 hg)
end
end
section
open Go.RowKit Go.Maps
attribute [local go_sem] aQ aC bW
theorem TK{X:agb}{base:Nat}{e:TypeId}{A:dB}{n c:Nat}{xs:List Int}(h:cH dr e X base 0 (G A n c) xs){X':agb}(hb:aZ X X'):(eF dr).rd X' X'.heap.size [G A n c] xs:=
 ((ki.row iP h).below hb).rd
theorem wH{W:agb}{g:Nat}{C:Array R}{t:TypeId}{ls:List (List Int)}(hb:Bk W g C t)(hl:C.size=ls.length)(h:∀i(h1:i<ls.length)(h2:i<C.size),(eF dr).rd W W.heap.size [C[i]] ls[i]):ic Cy W (O ⟨g,0,U⟩) ls:=λ i hi=>by
 refine⟨g,0,[C[i]],rfl,hb.lt,h i hi ar,λ j u hu=>?_⟩
 have hj:j=0:=by have :=(ai.1 hu).1;simpa using this
 subst hj;have :=hb.cell i;have e:Cy.n=1:=rfl;simp only[jH,cQ] at hu;rw[e];simp only[bX,Nat.mul_one,Nat.add_zero];rw[this,cP ar,hu]
theorem uw{e:TypeId}{X:agb}{base B:Nat}{v:R}{xs:List Int}(h:cH dr e X base B v xs){g:Nat}(hg:v.ownBlock=O g):∃C,Bk X g C e:=by obtain⟨css,_,_,hown⟩:=h;exact gN hown hg
theorem aba{X:agb}{base:Nat}{A1 A2:dB}{c1 c2:Nat}{n:Nd}{l1 l2:Nat}(h1:cH dr 3 X base 0 (G A1 l1 c1) n.cJ)(h2:cH dr 3 X base 0 (G A2 l2 c2) (cV n.kids))(ha:n.attr<=4611686018427387904)(hf:n.leaf<=4611686018427387904):
 ki vH (λ g=>(G A1 l1 c1).ownBlock=O g\/(G A2 l2 c2).ownBlock=O g) X [I J n.attr,G A1 l1 c1,G A2 l2 c2,I J n.leaf] (pA n):=by
 have hlt:∀g,((G A1 l1 c1).ownBlock=O g\/(G A2 l2 c2).ownBlock=O g)->g<X.heap.size:=λ g hg=>hg.elim (λ h=>(h1.lt g h).2) (λ h=>(h2.lt g h).2);have r1:=(ki.row iP h1).mono (F':=λ g=>(G A1 l1 c1).ownBlock=O g\/(G A2 l2 c2).ownBlock=O g) (λ g hg=>.inl hg) hlt;have r2:=(ki.row iP h2).mono (F':=λ g=>(G A1 l1 c1).ownBlock=O g\/(G A2 l2 c2).ownBlock=O g) (λ g hg=>.inr hg) hlt
 have i1:ki dr (λ g=>(G A1 l1 c1).ownBlock=O g\/(G A2 l2 c2).ownBlock=O g) X [I J n.attr] (n.attr:Int):=
  (ki.flat (B:=0) iP ⟨rfl,ar,ar⟩ (λ u hu=>by rw[aN] at hu;subst hu;rfl)).mono (λ g h=>h.elim) hlt
 have i2:ki dr (λ g=>(G A1 l1 c1).ownBlock=O g\/(G A2 l2 c2).ownBlock=O g) X [I J n.leaf] (n.leaf:Int):=
  (ki.flat (B:=0) iP ⟨rfl,ar,ar⟩ (λ u hu=>by rw[aN] at hu;subst hu;rfl)).mono (λ g h=>h.elim) hlt
 exact i1.pair (r1.pair (r2.pair i2))
def aeC(S T:Nat->Prop)(X:agb)(S':Nat->Prop):Prop:=∀g,S' g->S g\/X.heap.size<=g\/T g
theorem qK{X:agb}{g:Nat}{C:Array R}{t:TypeId}(h:Bk X g C t){zs:List Int}(hc:C=(zs.map (Value.int .i64)).toArray)(hz:∀z∈zs,fits z):ic dr X (O ⟨g,0,U⟩) zs:=λ i hi=>by
 refine⟨g,0,[I J zs[i]],rfl,h.lt,⟨rfl,hz _ (cD hi)⟩,λ j u hu=>?_⟩
 have hj:j=0:=by have :=(ai.1 hu).1;simpa using this
 subst hj;have hcell:=h.cell i;have hu':I J zs[i]=u:=by injection hu
 subst hu';show X.cell? ⟨g,0+i*1+0,U⟩=O _;rw[show 0+i*1+0=i from ar,hcell,hc];simp[hi]
theorem P6{w X:agb}{base:Nat}{A1 A2:dB}{l1 l2 c1 c2 g gi:Nat}{xs ys:List Int}{a b:Int}{t t':TypeId}(k1:cH dr 3 w base 0 (G A1 l1 c1) xs)(k2:cH dr 3 w base 0 (G A2 l2 c2) ys)(hb:aZ w X)
 (h1:Bk X g #[G A1 l1 c1,G A2 l2 c2,G (O ⟨gi,0,U⟩) 2 2] t)(h2:Bk X gi #[I J a,I J b] t')(ha:fits a)(hb2:fits b):ic Cy X (O ⟨g,0,U⟩) [xs,ys,[a,b]]:=by
 refine wH h1 rfl λ i a1 a2=>?_;rcases i with _|_|_|i
 · exact TK k1 hb
 · exact TK k2 hb
 · refine⟨_,2,rfl,ah _,by unfold maxLen;omega,qK (zs:=[a,b]) h2 rfl (λ z hz=>?_)⟩
   simp only[aR,bH,or_false] at hz;rcases hz with rfl|rfl
   · exact ha
   · exact hb2
 · exact absurd a1 bY
theorem Oe(n:Nd)(A1 A2:dB)(l1 c1 l2 c2:Nat)(s:Bs Dk)(S:Nat->Prop)(base bb:Nat)(w:agb)(h:xC w base bb S s)(k1:cH dr 3 w base 0 (G A1 l1 c1) n.cJ)(k2:cH dr 3 w base 0 (G A2 l2 c2) (cV n.kids))(hbase:base<=w.heap.size)
 (ha:n.attr<=10)(vw:n.leaf<=1099511627776)(Mr:n.cJ.length<=1000000)(JC:n.kids.length<=1000000)(hz1:s.nodes.length<=1099511627776)(hz2:s.nk<=1099511627776)(ht:nu w):
 Calls prog 37 #[M (O ⟨bb,0,U⟩),.agg #[I J n.attr,G A1 l1 c1,G A2 l2 c2,I J n.leaf]] w λ e w'=>e=.returned (I J (ra s n).2)/\
  ∃S',xC w' base bb S' (ra s n).1/\Only S w w'/\aeC S (λ g=>(G A1 l1 c1).ownBlock=O g\/(G A2 l2 c2).ownBlock=O g) w S':=by
 obtain⟨F,vN,vL,kn,md,lf,h0,hS⟩:=h;obtain⟨bx,bl⟩:=h0.box.cl0;obtain⟨AN,cN,hv,Kj,hmN⟩:=h0.nodes.form;rw[bB] at hv Kj;subst hv
 have hlen:(jE [n.cJ,cV n.kids,[(n.attr:Int),(n.leaf:Int)]]).length<=220000010:=by
  have qd:∀l∈ [n.cJ,cV n.kids,[(n.attr:Int),(n.leaf:Int)]],∀x∈l,-9223372036854775808<=x/\x<=9223372036854775807:=λ l hl x hx=>by
   simp only[aR,bH,or_false] at hl;rcases hl with rfl|rfl|rfl
   · exact(sL k1).2 x hx
   · exact(sL k2).2 x hx
   · simp only[aR,bH,or_false] at hx
     rcases hx with rfl|rfl<;>omega
  have :=uM (ls:=[n.cJ,cV n.kids,[(n.attr:Int),(n.leaf:Int)]]) (m:=1000000) (λ l hl=>by
   simp only[aR,bH,or_false] at hl;rcases hl with rfl|rfl|rfl
   · exact Mr
   · unfold cV;rw[bB];exact JC
   · simp) qd
  simp at this;omega
 have HT:=dt ht hlen;have H0:=iM h0 hS k1 k2;clear h0 hS k1 k2 ht hlen;go_enter func37,ntmps37
 have hm:∀l∈ [n.cJ,cV n.kids,[(n.attr:Int),(n.leaf:Int)]],l.length<=1000000:=λ l hl=>by
  simp only[aR,bH,or_false] at hl;rcases hl with rfl|rfl|rfl
  · exact Mr
  · unfold cV;rw[bB];exact JC
  · simp
 go_upto_region 2 with(go_at_call 38;(refine(Cz _ [n.cJ,cV n.kids,[(n.attr:Int),(n.leaf:Int)]] 3 3 rfl _ _ (P6 (t:=117) (t':=3) H0.q3 H0.t3 dE (au _ _ _ _ bY) ((au _ _ _ _ bY).alloc _) (by unfold fits;omega) (by unfold fits;omega)) (ah _) ar hm (HT.q1.below dE)).mono ?_;rintro e w2 ⟨rfl,hb⟩;have HB:=aG hb;clear hb));have HW:Hid (aZ w w2/\Bk w2 w.heap.size #[I J n.attr,G A1 l1 c1,G A2 l2 c2,I J n.leaf] 121):=aG ⟨aq dE HB.o,Bk.sj (((au _ _ _ _ rfl).alloc _).alloc _) HB.o gW⟩;refine forget (λ W=>aZ w W/\Bk W w.heap.size #[I J n.attr,G A1 l1 c1,G A2 l2 c2,I J n.leaf] 121) HW.o ?_;clear HB HW;rintro W ⟨hW,pX⟩;obtain⟨T,hT⟩:∃T:BA0,(⟨(jE [n.cJ,cV n.kids,[(n.attr:Int),(n.leaf:Int)]]).toArray⟩:BA0)=T:=⟨_,rfl⟩;rw[hT];have hkey:keyOf prog 9 (.string T)=O (yl n):=by rw[<-hT];exact TH (by have :=HT.t1;unfold maxLen;omega)
 have H1:=iM (show TJ F W base bb (G AN s.nodes.length cN) vL kn md lf s from H0.q1.only (T:=λ _=>False) (aw hW) (λ _ h=>h.elim)) pX hW hkey;obtain⟨bx1,bl1⟩:=H1.q1.box.cl0;clear hW pX hkey bx bl;rcases hk:s.known n with _|k
 · as_aux_lemma=>
   have zX:mQ s.known n=U:=by unfold mQ;rw[hk];rfl
   have HK:=aG zX;have Hk:=aG hk;clear hk zX;go_upto_region 5 with(at_lookup;refine kv rfl _ _ _ rfl 9 3 lV bC aJ aV rfl H1.q1.known _ n rfl H1.t3 ?_;rw[HK.o]);obtain⟨ob,oJ⟩:∃o,(G AN s.nodes.length cN).ownBlock=o:=⟨_,rfl⟩;have hap:=H1.q1.apart;have nb:¬ob=O bb:=λ e=>(hap.1 bb (oJ.trans e)).1 rfl;have nw:¬ob=O w.heap.size:=λ e=>by have :=(H0.q1.nodes.lt _ (oJ.trans e)).2;omega
   obtain⟨cp,lp⟩:=H1.q2.cl0;have xb:∀u i,(jP ob W u).cell? ⟨bb,i,U⟩=(#[G AN s.nodes.length cN,vL,.map (O kn),.map (O md),.map (O lf)]:Array R)[i]?:=λ u i=>(fE bb i bl1 nb).trans (bx1 i);have xp:∀u i,(jP ob W u).cell? ⟨w.heap.size,i,U⟩=(#[I J n.attr,G A1 l1 c1,G A2 l2 c2,I J n.leaf]:Array R)[i]?:=λ u i=>(fE w.heap.size i lp nw).trans (cp i);obtain⟨F',hF'⟩:∃F':Nat->Prop,F'=λ g=>F g\/(G A1 l1 c1).ownBlock=O g\/(G A2 l2 c2).ownBlock=O g:=⟨_,rfl⟩;have k1W:cH dr 3 W base 0 (G A1 l1 c1) n.cJ:=H0.q3.below H1.q3 (ak _);have k2W:cH dr 3 W base 0 (G A2 l2 c2) (cV n.kids):=H0.t3.below H1.q3 (ak _)
   have hints:∀g,F' g->∃C,Bk W g C 3:=λ g hg=>by
    rw[hF'] at hg;rcases hg with hg|hg|hg
    · exact H1.q1.ints g hg
    · exact uw k1W hg
    · exact uw k2W hg
   have Kk:∀g,F' g->g<W.heap.size:=λ g hg=>by obtain⟨C,hC⟩:=hints g hg;exact hC.lt
   have Ms:mz vH 121 F' W base (G AN s.nodes.length cN) (List.map pA s.nodes):=H1.q1.nodes.mono (λ g hg=>by rw[hF'];exact .inl hg) Kk
   have aeE:∀g,(G AN s.nodes.length cN).ownBlock=O g->¬F' g:=λ g hg hf=>by obtain⟨C,hC⟩:=Ms.typed hg;obtain⟨C',Jz⟩:=hints g hf;exact absurd (fK hC Jz) cj
   have Mt:ki vH F' W [I J n.attr,G A1 l1 c1,G A2 l2 c2,I J n.leaf] (pA n):=(aba k1W k2W ar ar).mono (λ g hg=>by rw[hF'];exact .inr hg) Kk;have HN:=uF Ms aeE Mt hints Kk hF';have hzW:(List.map pA s.nodes).length<=1099511627776:=by rw[bB];exact hz1
   clear Ms aeE Mt hints Kk hF' k1W k2W;have hS0:Only (λ g=>ob=O g) W W.drew:=(Only.refl _ _).drew;have kW:=aG hS0;have XL:=fH oJ nb nw;have Mi:base<=W.heap.size:=by have :=H1.q3.size;omega
   clear hS0 hap bx1 cp oJ;refine ed (S:=λ w'=>∃u,w'=jP ob W u) [([0,1,2,3,4,5],[6,7]),([8,9],[])] 10 aV aV (dT kW.o) ?_;refine bT (λ K9 h9=>?_);simp only[aH,aU,aW,aa,ae];repeat(go_big_quiet_step (fail))
   refine wpQuiet_nil (h9 _ ?_);clear h9 K9;refine cM (λ K9 h9=>?_);simp only[aW,aa,ae];refine jo (by rfl) _ 121 _ (by rfl) #[I J n.attr,G A1 l1 c1,G A2 l2 c2,I J n.leaf] (by rfl) underlying53 aV bY bY aV ?_;show K9 _ _;go_simp;refine h9 _ _ (dT (kW.o.alloc _)) ?_;clear h9 K9;refine cM (λ K9 h9=>?_);simp only[aW,aa,ae];refine ym (T:=vH) (F:=F') (base:=base) (e:=121) (v:=G AN s.nodes.length cN) (xs:=List.map pA s.nodes) rfl _ _ _ rfl 64 underlying53 aV cj rfl (HN.q1.below dE) HN.q2 (λ g hg=>by have :=HN.q5 g hg;simp;omega) (O ⟨W.heap.size,0,U⟩) 1 (#[I J n.attr,G A1 l1 c1,G A2 l2 c2,I J n.leaf]:Array R).toList (pA n) rfl (HN.q3.below dE) (by have :=gL ((Bk.new W #[I J n.attr,G A1 l1 c1,G A2 l2 c2,I J n.leaf] 121).drew) 1;simpa using this) (by unfold maxLen;omega) ar gW ?_;intro A8 c8 w8 ew eM GV hf8 TL;rw[bB] at ew hf8 TL;replace TL:∀g,(G A8 (s.nodes.length+1) c8).ownBlock=O g->(G AN s.nodes.length cN).ownBlock=O g\/W.heap.size<=g:=λ g hg=>(TL g hg).imp id (λ h=>by simp at h;omega);show K9 _ _;go_simp;have Am:Only (λ g=>ob=O g) W w8:=(kW.o.alloc _).trans (GV.mono λ g e=>XL.q1.symm.trans e);have H8:=iM ew Am hf8 TL;refine h9 _ _ (dT Am) ?_;clear h9 K9 ew eM GV hf8 TL Am;refine bU ?_;refine bT (λ K9 h9=>?_);simp only[aH,aU,aW,aa,ae];repeat(go_big_quiet_step (fail))
   refine wpQuiet_nil (h9 _ ?_);clear h9 K9;refine bU (dF ?_);simp only[aW,aa,ae];have EL:=H1.q1.box.only H8.q2 XL.q2;have cq8:=EL.cell;have fq8:=EL.free 0;have lq8:=EL.lt;have S9:=aG EL;clear EL xp xb;go_upto_region 6 with fail;obtain⟨Z,hZ⟩:∃Z,w8.setCell ⟨bb,0,U⟩ (G A8 (s.nodes.length+1) c8)=Z:=⟨_,rfl⟩;have Mu:Only (λ g=>ob=O g\/g=bb) W Z:=by rw[<-hZ];exact(H8.q2.mono λ g e=>.inl e).aS (p:=⟨bb,0,U⟩) (.inl (.inr rfl)) _
   have hap:=H1.q1.apart;have wI:∀g,ob=O g->(G AN s.nodes.length cN).ownBlock=O g:=λ g e=>XL.q1.trans e
   have hbz:TJ F' Z base bb (G A8 (s.nodes.length+1) c8) vL kn md lf {s with nodes:=s.nodes++[n]}:=by
    have hF2:∀g,F' g->g≠bb/\g≠kn/\g≠md/\g≠lf/\¬ob=O g:=λ g hg=>by obtain⟨C,hC⟩:=HN.q4 g hg;exact⟨λ e=>by subst e;exact absurd (fK hC H1.q1.box) cj,λ e=>by subst e;exact H1.q1.known.gY hC,λ e=>by subst e;exact H1.q1.made.gY hC,λ e=>by subst e;exact H1.q1.leaf.gY hC,λ e=>HN.q2 g (wI g e) hg⟩
    refine⟨?_,?_,?_,?_,?_,?_,λ g hg=>?_,H1.q1.Rk⟩
    · rw[<-hZ];exact S9.o.aS 0 _
    · have e:List.map pA (s.nodes++[n])=List.map pA s.nodes++[pA n]:=by rw[dH];rfl
      show mz vH 121 F' Z base _ (List.map pA (s.nodes++[n]));rw[e,<-hZ];refine H8.q1.only (S:=λ g=>g=bb) ((Only.refl (λ g=>g=bb) w8).aS (p:=⟨bb,0,U⟩) (.inl rfl) _) (λ g hg hf=>(hF2 g hf).1 hg) (λ g hg e=>?_);obtain⟨C,hC⟩:=H8.q1.typed hg;subst e;exact absurd (fK hC S9.o) cj
    · exact H1.q1.leaves.only Mu (λ _ _=>ak _) (ak _) (λ g hg hs=>hs.elim (λ e=>(hap.1 g (wI g e)).2.2.2.2.1 hg) (λ e=>(hap.2.1 g hg).1 e))
    · exact H1.q1.known.only Mu (λ hs=>hs.elim (λ e=>(hap.1 _ (wI _ e)).2.1 rfl) (λ e=>hap.2.2.1.1 e.symm))
    · exact H1.q1.made.only Mu (λ hs=>hs.elim (λ e=>(hap.1 _ (wI _ e)).2.2.1 rfl) (λ e=>hap.2.2.1.2.1 e.symm))
    · exact H1.q1.leaf.only Mu (λ hs=>hs.elim (λ e=>(hap.1 _ (wI _ e)).2.2.2.1 rfl) (λ e=>hap.2.2.1.2.2 e.symm))
    · obtain⟨C,hC⟩:=HN.q4 g hg
      exact⟨C,hC.only Mu (λ hs=>hs.elim (λ e=>(hF2 g hg).2.2.2.2 e) (λ e=>(hF2 g hg).1 e))⟩
   have hSZ:Only S w Z/\aeC S (λ g=>(G A1 l1 c1).ownBlock=O g\/(G A2 l2 c2).ownBlock=O g) w (bS F' bb (G A8 (s.nodes.length+1) c8) vL kn md lf):=by
    refine⟨(aw (S:=S) H1.q3).trans' Mu (λ g hg=>.inl ((H0.q2 g).2 (hg.elim (λ e=>.inr (.inl (wI g e))) (λ e=>.inl e)))),λ g hg=>?_⟩;have Zr:=H1.q3.size;rcases hg with e|e|e|e|e|e|e
    · exact .inl ((H0.q2 g).2 (.inl e))
    · rcases H8.t3 g e with q|q
      · exact .inl ((H0.q2 g).2 (.inr (.inl q)))
      · exact .inr (.inl ar)
    · exact .inl ((H0.q2 g).2 (.inr (.inr (.inl e))))
    · exact .inl ((H0.q2 g).2 (.inr (.inr (.inr (.inl e)))))
    · exact .inl ((H0.q2 g).2 (.inr (.inr (.inr (.inr (.inl e))))))
    · exact .inl ((H0.q2 g).2 (.inr (.inr (.inr (.inr (.inr (.inl e)))))))
    · rw[HN.t5] at e
      rcases e with e|e
      · exact .inl ((H0.q2 g).2 (.inr (.inr (.inr (.inr (.inr (.inr e)))))))
      · exact .inr (.inr e)
   have HZ:=dt hbz hSZ;rw[hZ];clear hZ Mu hap wI hbz hSZ cq8 fq8 lq8 S9 H8 HN Mi kW nb nw lp bl1 XL;obtain⟨cz,lz⟩:=HZ.q1.box.cl0;refine ed (S:=λ w'=>∃u,w'=ext Z u) [([0,1,2,3,4,5,6,7,8,9,10],[])] 11 aV aV (by obtain⟨u,e⟩:=dV ((aA Z.heap.size Z).drew);exact⟨u,e.symm⟩) ?_;refine bT (λ K9 h9=>?_);simp only[aH,aU,aW,aa,ae];repeat(go_big_quiet_step (fail))
   refine wpQuiet_nil (h9 _ ?_);clear h9 K9;refine bU (dF ?_);simp only[aW,aa,ae];go_wp2_with (at_mapUpdate;refine qH (m:=s.nk) (f:=mQ s.known) rfl _ _ _ _ rfl 9 3 lV bC aJ J6 (by have :=hz2;unfold maxLen;omega) rfl (HZ.q1.known.below (aA _ _).drew) _ n rfl H1.t3 (s.nodes.length:Int) (by simp[Lit.wf,IntKind.min,IntKind.max,IntKind.signed,IntKind.bits];omega) gC ?_;intro w3 Aq ru;have HZ3:=dt Aq ru;have lz3:=(HZ.q1.box.only (HZ.q1.box.lt |> λ _=>(Only.refl (λ g=>g=kn) Z).drew.trans ru) HZ.q1.apart.2.2.1.1).lt;have cz3:=(HZ.q1.box.only ((Only.refl (λ g=>g=kn) Z).drew.trans ru) HZ.q1.apart.2.2.1.1).cell;clear Aq ru);go_ret;have XM:ra s n=({s with nodes:=s.nodes++[n],known:=tL s.known n s.nodes.length,nk:=s.nk+1},s.nodes.length):=by unfold ra;rw[Hk.o]
   rw[XM];have hzn:(mQ s.known n).isSome=false:=by rw[HK.o];rfl
   have hap:=HZ.q1.apart;have ru:Only (λ g=>g=kn) Z w3:=(Only.refl (λ g=>g=kn) Z).drew.trans HZ3.t1;refine⟨rfl,bS F' bb (G A8 (s.nodes.length+1) c8) vL kn md lf,⟨F',_,vL,kn,md,lf,⟨?_,?_,?_,?_,?_,?_,λ g hg=>?_,HZ.q1.Rk⟩,λ g=>Iff.rfl⟩,HZ.q2.trans' ru (λ g hg=>.inl ((H0.q2 g).2 (.inr (.inr (.inr (.inl hg)))))),HZ.t2⟩
   · exact HZ.q1.box.only ru hap.2.2.1.1
   · exact HZ.q1.nodes.only ru (λ g hg hf=>(hap.2.2.2 g hf).2.1 hg) (λ g hg=>(hap.1 g hg).2.1)
   · exact HZ.q1.leaves.only ru (λ _ _=>ak _) (ak _) (λ g hg=>(hap.2.1 g hg).2.1)
   · have h:=HZ3.q1
     rw[hzn] at h;have h':jQ yl prog 9 3 w3 kn (s.nk+1) (Dp (mQ s.known) n (s.nodes.length:Int)):=h;rw[<-DA] at h';exact h'
   · exact HZ.q1.made.only ru (λ e=>HZ.q1.Rk.1 e.symm)
   · exact HZ.q1.leaf.only ru (λ e=>HZ.q1.Rk.2.1 e.symm)
   · obtain⟨C,hC⟩:=HZ.q1.ints g hg
     exact⟨C,hC.only ru (λ e=>(hap.2.2.2 g hg).2.1 e)⟩
 · as_aux_lemma=>
   have zX:mQ s.known n=O (k:Int):=by unfold mQ;rw[hk];rfl
   have XM:ra s n=(s,k):=by unfold ra;rw[hk]
   have HK:=aG zX;clear hk zX;have HA:=aG XM;clear XM;go_wp2_with (at_lookup;refine kv rfl _ _ _ rfl 9 3 lV bC aJ aV rfl H1.q1.known _ n rfl H1.t3 ?_;rw[HK.o]);go_ret;rw[HA.o];exact⟨rfl,_,⟨F,_,vL,kn,md,lf,H1.q1,H0.q2⟩,aw H1.q3,λ g hg=>.inl hg⟩
end
end Go.Proofs.YtbcpcneadjcmlaaGreatDoor
