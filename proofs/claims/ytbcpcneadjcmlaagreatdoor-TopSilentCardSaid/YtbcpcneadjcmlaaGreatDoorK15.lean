import Derived.Test.YtbcpcneadjcmlaaGreatDoorK14
namespace Go.Proofs.YtbcpcneadjcmlaaGreatDoor
open Go.Proofs.Tryz
set_option maxRecDepth 100000
set_option maxHeartbeats 16000000
set_option linter.unusedVariables false
set_option linter.unusedSimpArgs false
open Option renaming some→O
section
open Go.RowKit Go.Maps
theorem wfI{x:Int}(h:fits x):(Lit.int .i64 x).wf=true:=by unfold fits at h;simp[Lit.wf,IntKind.min,IntKind.max,IntKind.signed,IntKind.bits];omega
theorem pP{d:Nat}{a b:Int}(ha:fits a)(hb:fits b):prog.keyLits (d+2) 46 [.int .i64 a,.int .i64 b]=some [.int .i64 a,.int .i64 b]:=by have c0:prog.cellsOf 46=2:=aV;have c1:prog.cellsOf 3=1:=aV;have wa:=wfI ha;have wb:=wfI hb;simp[Program.keyLits,underlying46,aJ,c0,c1,wa,wb]
theorem XN{al tg si:Bool}{lim price fn fd tn td cn cd sn sd rn rd y:Int}(h1:fits lim)(h2:fits price)(h3:fits fn)(h4:fits fd)(h5:fits tn)(h6:fits td)(h7:fits cn)(h8:fits cd)(h9:fits sn)(h10:fits sd)(h11:fits rn)(Lh:fits rd)(Li:fits y):
 (keyOf prog 63 (.agg (kF al tg si lim price fn fd tn td cn cd sn sd rn rd y))).isSome=true:=by
 have c0:prog.cellsOf 63=16:=aV;have c1:prog.cellsOf 3=1:=aV;have c2:prog.cellsOf 4=1:=aV;have c3:prog.cellsOf 46=2:=aV;have hk:prog.keyType 63=true:=aV
 obtain⟨d,hd⟩:∃d,prog.types.size=d+2:=by have h0:1<prog.types.size:=of_decide_eq_true aV;generalize prog.types.size=z at h0;exact⟨z - 2,ar⟩
 have r3:=pP (d:=d) h3 h4;have r4:=pP (d:=d) h5 h6;have r5:=pP (d:=d) h7 h8;have r6:=pP (d:=d) h9 h10;have r7:=pP (d:=d) h11 Lh;have w1:=wfI h1;have w2:=wfI h2;have w3:=wfI Li;have ib:∀b,prog.keyLits (d+2) 4 [.bool b]=some [.bool b]:=λ b=>by simp[Program.keyLits,dW]
 have ii:∀x,(Lit.int .i64 x).wf=true->prog.keyLits (d+2) 3 [.int .i64 x]=some [.int .i64 x]:=λ x hx=>by simp[Program.keyLits,aJ,hx]
 have i1:=ii _ w1;have i2:=ii _ w2;have i3:=ii _ w3;clear ii w1 w2 w3 h1 h2 h3 h4 h5 h6 h7 h8 h9 h10 h11 Lh Li;unfold keyOf;rw[gH,hd];unfold Program.keyLits;rw[gH];simp[hk,Value.formed,gH,c0,c1,c2,c3,Value.cells,kF,r3,r4,r5,r6,r7,ib,i1,i2,i3]
def Ho(s:JS):Prop:=(fits s.lim/\fits s.price)/\(fits s.fn/\fits s.fd/\fits s.tn/\fits s.td)/\(fits s.cn/\fits s.cd/\fits s.sn/\fits s.sd)/\(fits s.rn/\fits s.rd)/\(fits s.al/\fits s.de)
def Hu(r:Rl):Prop:=fits r.2.2.2.1/\(fits r.2.2.2.2.1.1/\fits r.2.2.2.2.1.2)/\(fits r.2.2.2.2.2.1/\fits r.2.2.2.2.2.2)
theorem P7{s:JS}{i:Int}{r:Rl}(hs:Ho s)(hi:fits i)(hr:Hu r):Ho (Kh s i r):=by
 obtain⟨⟨a1,a2⟩,⟨b1,b2,b3,b4⟩,⟨c1,c2,c3,c4⟩,⟨d1,d2⟩,⟨e1,e2⟩⟩:=hs;obtain⟨g1,⟨g2,g3⟩,⟨g4,g5⟩⟩:=hr;unfold Kh yo sQ Ml Hh Hi;repeat' split
 all_goals(refine⟨⟨?_,?_⟩,⟨?_,?_,?_,?_⟩,⟨?_,?_,?_,?_⟩,⟨?_,?_⟩,⟨?_,?_⟩⟩<;>(first|assumption|(dsimp only;split<;>assumption)))
theorem Mv{n:Nat}(h:n<=1000000):fits (n:Int):=by unfold fits;omega
theorem DB{f:Fc}{rs:List Rl}(hr:∀r∈rs,Hu r)(hl:rs.length<=1000000):∀n,n<=rs.length->Ho (dR f rs n)
 |0,_=>by unfold dR Dz Ho fits;simp
 |k+1,h=>by
  have hk:rs[k]?=some rs[k]:=af ar;rw[uU hk];unfold Dy;split
  · exact P7 (DB hr hl k ar) (Mv ar) (hr _ (cD _))
  · exact DB hr hl k ar
theorem XO{s:JS}(h:Ho s):(keyOf prog 63 (.agg (vG s))).isSome=true:=by obtain⟨⟨a1,a2⟩,⟨b1,b2,b3,b4⟩,⟨c1,c2,c3,c4⟩,⟨d1,d2⟩,⟨e1,e2⟩⟩:=h;exact XN a1 a2 b1 b2 b3 b4 c1 c2 c3 c4 d1 d2 (by unfold TE;split<;>assumption)
theorem Mw:Ho Dz:=by unfold Dz Ho fits;simp
theorem TR(s:JS):(vG s).toList.length=16/\∀u∈(vG s).toList,u.oneCell'=true:=by refine⟨rfl,λ u hu=>?_⟩;have :=yr (a:=IK s) (tg:=s.tg) (si:=s.si) (lim:=s.lim) (price:=s.price) (fn:=s.fn) (fd:=s.fd) (tn:=s.tn) (td:=s.td) (cn:=s.cn) (cd:=s.cd) (sn:=s.sn) (sd:=s.sd) (rn:=s.rn) (rd:=s.rd) (y:=TE s);rw[dJ] at this;exact this u (by unfold vG at hu;simpa using hu)
def aeJ(s:JS)(h:Ho s):Dk:=⟨(vG s).toList,(TR s).1,(TR s).2,by have :=XO h;simpa using this⟩
open Classical in
noncomputable def iK(rs:List Rl)(f:Fc):Dk:=if h:Ho (dR f rs rs.length) then aeJ _ h else aeJ _ Mw
theorem wK{rs:List Rl}{f:Fc}(hr:∀r∈rs,Hu r)(hl:rs.length<=1000000):(iK rs f).1=(vG (dR f rs rs.length)).toList:=by unfold iK;rw[dif_pos (DB hr hl _ (ah _))];rfl
def bc(rs:List Rl):List Zn:=rs.flatMap λ r=>r.2.2.1
theorem DC{rs:List Rl}{f g:Fc}(h:cu (bc rs) 10 f=cu (bc rs) 10 g):∀r∈rs,oh r f=oh r g:=λ r hr=>by
 have hl:=O7 h
 have hz:∀z∈r.2.2.1,rC z f=rC z g:=λ z hz=>by
  have hm:z∈bc rs:=dP.2 ⟨r,hr,hz⟩;obtain⟨i,hi,e⟩:=bo.1 hm;have :=hl i hi;have e2:dK (bc rs) i=z:=by unfold dK;rw[av,af hi];exact e
  rwa [e2] at this
 unfold oh;rw[jc,eD,eD];exact⟨λ⟨z,h1,h2⟩=>⟨z,h1,by rw[<-hz z h1];exact h2⟩,λ⟨z,h1,h2⟩=>⟨z,h1,by rw[hz z h1];exact h2⟩⟩
theorem sR{rs:List Rl}{f g:Fc}(h:∀r∈rs,oh r f=oh r g):∀n,n<=rs.length->dR f rs n=dR g rs n
 |0,_=>rfl
 |k+1,hk=>by
  have hg:rs[k]?=some rs[k]:=af ar;rw[uU hg,uU hg,sR h k ar];unfold Dy;rw[h _ (cD _)]
theorem P8(rs:List Rl):∀f g,cu (bc rs) 10 f=cu (bc rs) 10 g->iK rs f=iK rs g:=λ f g h=>by unfold iK;rw[sR (DC h) _ (ah _)]
end
section
open Go.RowKit
def uz(c:Nat->Nat):Nat->Nat
 |0=>1
 |k+1=>c (9 - k)*uz c k
theorem F8{c:Nat->Nat}(hc:∀a,1<=c a):∀k,1<=uz c k
 |0=>ah _
 |k+1=>Nat.mul_pos (hc _) (F8 hc k)
theorem Km{c:Nat->Nat}(hc:∀a,1<=c a):∀k,il c k<=(2*k+2)*uz c k
 |0=>by simp[il,uz]
 |k+1=>by
  have h1:=Km hc k;have h2:=Nat.mul_le_mul_left (c (9 - k)) h1;have h3:=F8 hc (k+1)
  have e1:c (9 - k)*((2*k+2)*uz c k)=(2*k+2)*uz c (k+1):=by show _=(2*k+2)*(c (9 - k)*uz c k);rw[<-fQ,jv (c (9 - k)),fQ]
  have e2:(2*(k+1)+2)*uz c (k+1)=(2*k+2)*uz c (k+1)+2*uz c (k+1):=by rw[<-Nat.add_mul];congr 1
  show 2+c (9 - k)*il c k<=_;omega
theorem DJ{c d:Nat->Nat}(h:∀a,c a<=d a):∀k,il c k<=il d k
 |0=>ah _
 |k+1=>by
  have :=et (h (9 - k)) (DJ h k);show 2+_<=2+_;omega
def mA(Z:List Zn)(lim:Zn)(a:Nat):List Int:=stA Z lim a (List.range (Z.length+1))
def cA(Z:List Zn)(lim:Zn)(a:Nat):Nat:=(mA Z lim a).length
theorem Aw{Z:List Zn}{lo hi:Int}{a:Nat}{live:List Nat}{c:Int}(h:c∈fI Z lo hi a live):c∈fI Z lo hi a (List.range (Z.length+1)):=by
 unfold fI at h⊢;rcases aR.1 h with rfl|h
 · exact dA ..
 · obtain⟨z,_,hz⟩:=dP.1 h
   refine di _ (dP.2 ?_);rcases eC z Z.length with hlt|O4
   · exact⟨z,bG.2 ar,hz⟩
   · refine⟨Z.length,bG.2 ar,?_⟩
     have e:dK Z z=dK Z Z.length:=by unfold dK;rw[av,av,cX O4,cX (ah _)]
     rwa [<-e]
theorem sS(Z:List Zn)(lim:Zn)(a:Nat)(live:List Nat):(stA Z lim a live).length<=cA Z lim a:=by have h1:=lU Z lim a live;have h2:=lU Z lim a (List.range (Z.length+1));exact rP h1.1 λ x hx=>(h2.2.2 x).2 (Aw ((h1.2.2 x).1 hx))
set_option linter.unusedSectionVars false
section
variable{δ:Type}[DecidableEq δ]{Z:List Zn}{lim:Zn}{eE:Fc->δ}
structure VB(Z:List Zn)(lim:Zn)(s:Bs δ):Prop where
 known:∀n k,s.known n=O k->k<s.nodes.length
 leaf:∀d k,s.leaf d=O k->k<s.leaves.length
 made:∀c k,s.made c=O k->k<=s.nodes.length
 cJ:∀n∈s.nodes,∀c∈n.cJ,c∈mA Z lim n.attr
theorem Og{s:Bs δ}(h:VB Z lim s)(n:Nd)(hc:∀c∈n.cJ,c∈mA Z lim n.attr):VB Z lim (ra s n).1/\(ra s n).2<(ra s n).1.nodes.length:=by
 unfold ra;split
 · rename_i k hk
   exact⟨h,h.known n k hk⟩
 · refine⟨⟨λ m k hk=>?_,h.leaf,λ c k hk=>?_,λ m hm c hcm=>?_⟩,bY⟩
   · simp only[ax,jk]
     have qq:tL s.known n s.nodes.length m=O k:=hk;by_cases he:m=n
     · subst he
       rw[mq] at qq;cases qq
       omega
     · rw[nB _ _ he] at qq
       have :=h.known m k qq;omega
   · simp only[ax,jk]
     have :=h.made c k hk;omega
   · rcases bV.1 hm with hm|hm
     · exact h.cJ m hm c hcm
     · rw[aN.1 hm] at hcm⊢
       exact hc c hcm
theorem Kn{s:Bs δ}(h:VB Z lim s)(d:δ):VB Z lim (jW s d)/\((jW s d).leaf d).getD 0<(jW s d).leaves.length:=by
 unfold jW;split
 · rename_i k hk
   exact⟨h,by rw[hk];exact h.leaf d k hk⟩
 · refine⟨⟨h.known,λ e k hk=>?_,h.made,h.cJ⟩,?_⟩
   · simp only[ax,jk]
     have qq:tL s.leaf d s.leaves.length e=O k:=hk;by_cases he:e=d
     · subst he
       rw[mq] at qq;cases qq
       omega
     · rw[nB _ _ he] at qq
       have :=h.leaf e k qq;omega
   · show(tL s.leaf d s.leaves.length d).getD 0<_
     rw[mq];simp
theorem TT{s:Bs δ}(h:VB Z lim s)(key:List Nat×Nat){n:Nat}(hn:n<=s.nodes.length):VB Z lim (Dj s key n):=by
 refine⟨h.known,h.leaf,λ c k hk=>?_,h.cJ⟩;have qq:tL s.made key n c=O k:=hk;by_cases he:c=key
 · subst he
   rw[mq] at qq;cases qq
   exact hn
 · rw[nB _ _ he] at qq
   exact h.made c k qq
theorem Mx{s:Bs δ}(h:VB Z lim s)(d:δ):VB Z lim (j7 s d).1/\(j7 s d).2<=(j7 s d).1.nodes.length:=by unfold j7;obtain⟨h1,h2⟩:=Og (Kn h d).1 ⟨0,[],[],((jW s d).leaf d).getD 0⟩ (λ c hc=>absurd hc bY);exact⟨h1,gS h2⟩
theorem Oh{a:Nat}{live:List Nat}{c:Int}(h:c∈stA Z lim a live):c∈mA Z lim a:=by unfold mA;rw[(lU Z lim a _).2.2];exact Aw (((lU Z lim a live).2.2 c).1 h)
structure KB(Z:List Zn)(lim:Zn)(a:Nat)(K:Bs δ×List Int×List Nat):Prop where
 vb:VB Z lim K.1
 kids:∀q∈K.2.2,q<=K.1.nodes.length
 cJ:∀c∈K.2.1,c∈mA Z lim a
theorem DK{k:Nat}{live:List Nat}{f:Fc}{live0:List Nat}(hb:∀live f(s:Bs δ),VB Z lim s->VB Z lim (eZ Z lim eE k live f s).1/\(eZ Z lim eE k live f s).2<=(eZ Z lim eE k live f s).1.nodes.length):
 ∀(S:List Int)(K:Bs δ×List Int×List Nat),(∀c∈S,c∈mA Z lim (9 - k))->KB Z lim (9 - k) K->KB Z lim (9 - k) (gF Z lim eE k live f S K)
 |[],K,_,h=>h
 |c::S,K,hc,h=>by
  obtain⟨r,hr⟩:∃r,r=eZ Z lim eE k (gg Z (9 - k) live c) (f.set (9 - k) c) K.1:=⟨_,rfl⟩;have e:gF Z lim eE k live f (c::S) K=gF Z lim eE k live f S (jX K c r):=by rw[hr];rfl
  rw[e];have h1:=hb (gg Z (9 - k) live c) (f.set (9 - k) c) K.1 h.vb;have g1:=(mr (Z:=Z) (lim:=lim) (eE:=eE) (c:=cA Z lim) (λ a live=>sS Z lim a live) k (gg Z (9 - k) live c) (f.set (9 - k) c) K.1).le;rw[<-hr] at h1 g1;refine DK (live0:=live0) hb S (jX K c r) (λ x hx=>hc x (by simp[hx])) ?_;unfold jX;split
  · exact⟨h1.1,λ q hq=>bm (h.kids q hq) g1,h.cJ⟩
  · refine⟨h1.1,λ q hq=>?_,λ x hx=>?_⟩
    · rcases bV.1 hq with hq|hq
      · exact bm (h.kids q hq) g1
      · rw[aN.1 hq];exact h1.2
    · have XP:x∈(if K.2.2=[] then K.2.1 else K.2.1++[c]):=hx
      split at XP
      · exact h.cJ x XP
      · rcases bV.1 XP with XP|XP
        · exact h.cJ x XP
        · rw[aN.1 XP];exact hc c bY
theorem DL{a:Nat}{K:Bs δ×List Int×List Nat}(h:KB Z lim a K):VB Z lim (eN K a).1/\(eN K a).2<=(eN K a).1.nodes.length:=by
 unfold eN;split
 · obtain⟨h1,h2⟩:=Og h.vb ⟨a,K.2.1,K.2.2,0⟩ h.cJ
   exact⟨h1,gS h2⟩
 · refine⟨h.vb,?_⟩
   show K.2.2.headD 0<=K.1.nodes.length;cases e:K.2.2 with
   |nil=>exact ak _
   |cons q r=>exact h.kids q (by rw[e];simp)
theorem uW:∀(k:Nat)(live:List Nat)(f:Fc)(s:Bs δ),VB Z lim s->VB Z lim (eZ Z lim eE k live f s).1/\(eZ Z lim eE k live f s).2<=(eZ Z lim eE k live f s).1.nodes.length
 |0,live,f,s,h=>Mx h _
 |k+1,live,f,s,h=>by
  rcases hm:s.made (live,9 - k) with _|n
  · by_cases h2:20000<s.nodes.length
    · rw[qG hm h2]
      exact⟨h,ak _⟩
    · rw[rQ hm h2]
      have h3:=DK (live:=live) (f:=f) (live0:=live) (uW k) (stA Z lim (9 - k) live) (s,[],[]) (λ c hc=>Oh hc) ⟨h,λ q hq=>absurd hq bY,λ c hc=>absurd hc bY⟩;obtain⟨h4,h5⟩:=DL h3;exact⟨TT h4 _ h5,h5⟩
  · rw[qF hm]
    exact⟨h,h.made _ _ hm⟩
end
end
end Go.Proofs.YtbcpcneadjcmlaaGreatDoor
