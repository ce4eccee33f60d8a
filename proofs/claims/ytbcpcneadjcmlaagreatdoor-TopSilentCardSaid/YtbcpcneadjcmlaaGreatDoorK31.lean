import Derived.Test.YtbcpcneadjcmlaaGreatDoorK28
namespace Go.Proofs.YtbcpcneadjcmlaaGreatDoor
open Go.Proofs.Tryz
set_option maxRecDepth 100000
set_option maxHeartbeats 16000000
set_option linter.unusedVariables false
set_option linter.unusedSimpArgs false
open Value renaming int→I,slice→G,pointer→M
open IntKind renaming i64→J
open Obj renaming cells→D
open Option renaming some→O,none→U
open Go renaming Value→R,World→agb
open List renaming length→agh
section
open Go
theorem abh{a b:Bool}(h:a=true)(k:b=true):(a&&b)=true:=by rw[h,k];rfl
theorem adp:Rows.topSilentRow.wf (OpenSpec.ofChange Rows.topSilentSpec)=true:=aV
theorem adq:laidOutB prog=true:=aV
theorem adr:mapsRowed prog=true:=aV
theorem ads:Tryz.f4.params.all (prog.readableRec ·)=true:=aV
theorem adt:namedTie prog Rows.topSilentRow.named Rows.topSilentSpec.vars=true:=aV
theorem adu:(Rows.topSilentRow.stops== [])=true:=aV
theorem adv:(prog.stops== [])=true:=aV
theorem adw:(Rows.topSilentRow.knobs== [])=true:=aV
theorem adx:(prog.stopKnobs== [])=true:=aV
theorem ady:(Rows.topSilentRow.inPlace==prog.inPlace 4)=true:=aV
theorem acN:(Rows.topSilentRow.unfollowed==prog.unfollowed 4)=true:=aV
theorem acO:(Rows.topSilentRow.recurses==prog.recurses 4)=true:=aV
theorem acP:(Rows.topSilentRow.named==prog.varsNamed 4)=true:=aV
theorem acQ:(Rows.topSilentRow.maps==(Tryz.f4.params.toList++Rows.topSilentSpec.plain.varTypes prog).any (prog.mapsRec ·))=true:=aV
theorem acR:(Rows.topSilentRow.ifaces==(Tryz.f4.params.toList++Rows.topSilentSpec.plain.varTypes prog).any (prog.ifacesRec ·))=true:=aV
theorem acS:(Rows.topSilentRow.mapsOut==prog.mapsAmong Tryz.f4.resultTypes.toList)=true:=aV
theorem acT:(Rows.topSilentRow.loops==(Tryz.f4.params.toList++Rows.topSilentSpec.plain.varTypes prog).any (prog.loopsFrom ·))=true:=aV
theorem acU:(Rows.topSilentRow.wideKeys==(Tryz.f4.params.toList++Rows.topSilentSpec.plain.varTypes prog++Tryz.f4.resultTypes.toList).any (prog.wideKeysFrom ·))=true:=aV
theorem acV:Rows.topSilentSpec.vars.all (prog.varReadable ·)=true:=aV
theorem acW:Tryz.f4.resultTypes.all (λ t=>prog.readableRec t&&decide (t<prog.types.size))=true:=aV
theorem acX:(Rows.topSilentRow.ifacesOut==Tryz.f4.resultTypes.toList.any (prog.ifacesRec ·))=true:=aV
theorem acZ:(Rows.topSilentRow.loopsOut==Tryz.f4.resultTypes.toList.any (prog.loopsFrom ·))=true:=aV
theorem ac0:(Rows.topSilentRow.plainKeys==prog.plainKeys)=true:=aV
theorem ac1:Rows.topSilentRow.shortTexts.isNone=true:=aV
theorem ac2:prog.stopsHeard=true:=aV
theorem ac3:prog.mayEnter=true:=aV
theorem ac4:(Rows.topSilentRow.lifted==prog.liftsFinal)=true:=aV
theorem ac5:(prog.make==O Rows.topSilentRow.make)=true:=aV
theorem ac6:(Rows.topSilentRow.kinds==(if Rows.topSilentRow.domain.isEmpty then [] else Tryz.f4.params.toList.map λ t=>match prog.underlying t with |some (.int k)=>O k|_=>U))=true:=aV
theorem ac7:(Rows.topSilentRow.pinned==Rows.topSilentRow.pinnedBy)=true:=aV
theorem ac8:(Rows.topSilentRow.veiled==(Tryz.f4.params.toList++Rows.topSilentSpec.plain.varTypes prog++Tryz.f4.resultTypes.toList).any (prog.veiledRec ·))=true:=aV
theorem ac9:Rows.topSilentRow.veiledFits prog Tryz.f4.params.toList (Tryz.f4.params.toList++Rows.topSilentSpec.plain.varTypes prog++Tryz.f4.resultTypes.toList)=true:=aV
theorem abN:joinedFacts prog 4 Tryz.f4 Rows.topSilentSpec Rows.topSilentRow=true:=
 abh (abh (abh (abh (abh (abh (abh (abh (abh (abh (abh (abh (abh (abh (abh (abh (abh (abh (abh (abh (abh (abh (abh (abh (abh (abh (abh (abh (abh (abh (abh adp adq) adr) ads) adt) adu) adv) adw) adx) ady) acN) acO) acP) acQ) acR) acS) acT) acU) acV) acW) acX) acZ) ac0) ac1) ac2) ac3) ac4) ac5) ac6) ac7) ac8) ac9
theorem acv:Tryz.f4.isInstance prog Rows.topSilentRow.origin Rows.topSilentRow.targs:=of_decide_eq_true aV
theorem acw:Tryz.f4.isWrapper prog Rows.topSilentRow.wrapper Rows.topSilentRow.mainSum:=by unfold Func.isWrapper;first|(rw[if_pos (by decide+kernel)];kernel_rfl)|(rw[if_neg (by decide+kernel)];exact⟨rfl,rfl⟩)
theorem acp:prog.funcNamed Rows.topSilentRow.func=O 4:=aV
end
section
open Go.RowKit
structure abS(s t:JS):Prop where
 e: {s with al:=0,de:=0}= {t with al:=0,de:=0}
 al:0<=s.al↔0<=t.al
 de:s.de<0↔t.de<0
theorem abS.refl(s:JS):abS s s:=⟨rfl,Iff.rfl,Iff.rfl⟩
theorem abS.note{s t:JS}(h:abS s t){i i':Int}(hi:0<=i)(hi':0<=i')(r:Rl):abS (Kh s i r) (Kh t i' r):=by
 obtain⟨he,ha,hd⟩:=h;obtain⟨s1,s2,s3,s4,s5,s6,s7,aav,s9,s10,s11,s12,s13,s14,s15,s16,s17,s18,s19⟩:=s;obtain⟨t1,t2,t3,t4,t5,t6,t7,t8,t9,t10,t11,t12,t13,t14,t15,t16,t17,t18,t19⟩:=t;simp only[JS.mk.injEq,and_true] at he;obtain⟨rfl,rfl,rfl,rfl,rfl,rfl,rfl,rfl,rfl,rfl,rfl,rfl,rfl,rfl,rfl,rfl,rfl⟩:=he;simp only at ha hd;unfold Kh;by_cases h1:r.1=1
 · rw[if_pos h1,if_pos h1]
   refine⟨rfl,?_,hd⟩;show 0<=(if s18<0 then i else s18)↔0<=(if t18<0 then i' else t18);split<;>split<;>omega
 · rw[if_neg h1,if_neg h1]
   by_cases h2:r.1=2
   · rw[if_pos h2,if_pos h2]
     refine⟨rfl,ha,?_⟩;show(if s19<0 then i else s19)<0↔(if t19<0 then i' else t19)<0;split<;>split<;>omega
   · rw[if_neg h2,if_neg h2]
     by_cases h3:r.1=3
     · rw[if_pos h3,if_pos h3]
       unfold Ml;split
       · exact⟨rfl,ha,hd⟩
       · exact⟨rfl,ha,hd⟩
     · rw[if_neg h3,if_neg h3]
       by_cases h4:r.1=4
       · rw[if_pos h4,if_pos h4]
         unfold Hh;split
         · exact⟨rfl,ha,hd⟩
         · exact⟨rfl,ha,hd⟩
       · rw[if_neg h4,if_neg h4]
         by_cases h5:r.1=5
         · rw[if_pos h5,if_pos h5]
           unfold Hi;split
           · exact⟨rfl,ha,hd⟩
           · exact⟨rfl,ha,hd⟩
         · rw[if_neg h5,if_neg h5]
           by_cases h6:r.1=6
           · rw[if_pos h6,if_pos h6];exact⟨rfl,ha,hd⟩
           · rw[if_neg h6,if_neg h6]
             by_cases h7:r.1=7
             · rw[if_pos h7,if_pos h7];exact⟨rfl,ha,hd⟩
             · rw[if_neg h7,if_neg h7];exact⟨rfl,ha,hd⟩
theorem abS.step{s t:JS}(h:abS s t){i i':Int}(hi:0<=i)(hi':0<=i')(f:Fc)(r:Rl):abS (Dy f s i r) (Dy f t i' r):=by
 unfold Dy;split
 · exact h.note hi hi' r
 · exact h
theorem abM{f:Fc}{rs:List Rl}{n:Nat}:∀k,k<=n->dR f (rs.eraseIdx n) k=dR f rs k
 |0,_=>rfl
 |k+1,h=>by
  have ih:=abM (f:=f) (rs:=rs) (n:=n) k ar;have e:(rs.eraseIdx n)[k]?=rs[k]?:=by rw[List.getElem?_eraseIdx,if_pos ar]
  show(match(rs.eraseIdx n)[k]? with |some r=>Dy f (dR f (rs.eraseIdx n) k) k r|none=>dR f (rs.eraseIdx n) k)=(match rs[k]? with |some r=>Dy f (dR f rs k) k r|none=>dR f rs k);rw[e,ih]
theorem adz{f:Fc}{rs:List Rl}{n:Nat}{r:Rl}(hr:rs[n]?=O r)(hh:oh r f=false):∀k,n<=k->abS (dR f rs (k+1)) (dR f (rs.eraseIdx n) k):=by
 intro k hk;induction k with
 |zero=>
  obtain rfl:n=0:=ar;rw[uU hr];unfold Dy;rw[if_neg (by rw[hh];simp)];exact abS.refl _
 |succ k ih=>
  by_cases e:n=k+1
  · subst e
    rw[uU hr,abM (k+1) (ah _)];unfold Dy;rw[if_neg (by rw[hh];simp)];exact abS.refl _
  · have ih:=ih ar
    have e2:(rs.eraseIdx n)[k]?=rs[k+1]?:=by rw[List.getElem?_eraseIdx,if_neg ar]
    show abS (match rs[k+1]? with |some r=>Dy f (dR f rs (k+1)) ((k+1:Nat):Int) r|none=>dR f rs (k+1)) (match(rs.eraseIdx n)[k]? with |some r=>Dy f (dR f (rs.eraseIdx n) k) k r|none=>dR f (rs.eraseIdx n) k);rw[e2];cases rs[k+1]? with
    |none=>exact ih
    |some r=>exact ih.step ar ar f r
theorem aft{s t:JS}(h:abS s t):byV s t=vG t:=by
 obtain⟨he,ha,hd⟩:=h;obtain⟨s1,s2,s3,s4,s5,s6,s7,aav,s9,s10,s11,s12,s13,s14,s15,s16,s17,s18,s19⟩:=s;obtain⟨t1,t2,t3,t4,t5,t6,t7,t8,t9,t10,t11,t12,t13,t14,t15,t16,t17,t18,t19⟩:=t;simp only[JS.mk.injEq,and_true] at he;obtain⟨rfl,rfl,rfl,rfl,rfl,rfl,rfl,rfl,rfl,rfl,rfl,rfl,rfl,rfl,rfl,rfl,rfl⟩:=he;simp only at ha hd;unfold byV vG
 have :IK ⟨s1,s2,s3,s4,s5,s6,s7,aav,s9,s10,s11,s12,s13,s14,s15,s16,s17,s18,s19⟩=IK ⟨s1,s2,s3,s4,s5,s6,s7,aav,s9,s10,s11,s12,s13,s14,s15,s16,s17,t18,t19⟩:=by unfold IK;simp only[ha,hd]
 rw[this]
open Classical in
theorem afv{rs:List Rl}{n:Nat}{r:Rl}{f:Fc}(hr:rs[n]?=O r)(hh:oh r f=false):wD rs (rs.eraseIdx n) f=false:=by
 have hl:=(ai.1 hr).1;obtain⟨m,hm⟩:∃m,rs.length=m+1:=⟨rs.length - 1,ar⟩;have e:(rs.eraseIdx n).length=m:=by rw[List.length_eraseIdx,if_pos hl];omega
 have h:=aft (adz hr hh m ar);unfold wD;rw[e,hm,decide_eq_true h];rfl
theorem aeP(f:Fc)(rs:List Rl):∀k,k<=rs.length->((dR f rs k).de= -1/\∀b r,b<k->rs[b]?=O r->r.1=2->oh r f=false)\/
 ∃d r,d<k/\(dR f rs k).de=(d:Int)/\rs[d]?=O r/\r.1=2/\∀b r,b<k->rs[b]?=O r->r.1=2->oh r f=true->d<=b
 |0,_=>.inl ⟨rfl,λ b r hb=>absurd hb ar⟩
 |k+1,hk=>by
  have hr:rs[k]?=O rs[k]:=af ar;obtain⟨r,hr⟩:∃r,rs[k]?=O r:=⟨_,hr⟩;rw[uU hr];have ih:=aeP f rs k ar
  have keep:∀s:JS,¬(r.1=2/\oh r f=true)->(Dy f s k r).de=s.de:=λ s hn=>by
   unfold Dy;split
   · rename_i hh
     have h2:¬r.1=2:=λ e=>hn ⟨e,hh⟩;unfold Kh;split
     · rfl
     · try rw[if_neg h2]
       split
       · unfold Ml;split<;>rfl
       · split
         · unfold Hh;split<;>rfl
         · split
           · unfold Hi;split<;>rfl
           · split
             · rfl
             · split<;>rfl
   · rfl
  by_cases hc:r.1=2/\oh r f=true
  · have hs:∀s:JS,(Dy f s k r).de=if s.de<0 then(k:Int) else s.de:=λ s=>by
     unfold Dy;rw[if_pos hc.2];unfold Kh;rw[if_neg ar,if_pos hc.1];rfl
    right
    rcases ih with⟨h1,h2⟩|⟨d,r',h1,h2,h3,h4,h5⟩
    · refine⟨k,r,ar,by rw[hs,h1];rfl,hr,hc.1,λ b r' hb Fv EH hh'=>?_⟩
      by_cases e:b=k
      · omega
      · rw[h2 b r' ar Fv EH] at hh';cases hh'
    · refine⟨d,r',ar,by rw[hs,h2,if_neg ar],h3,h4,λ b r' hb Fv EH hh'=>?_⟩
      by_cases e:b=k
      · omega
      · exact h5 b r' ar Fv EH hh'
  · rw[keep _ hc]
    rcases ih with⟨h1,h2⟩|⟨d,r',h1,h2,h3,h4,h5⟩
    · refine .inl ⟨h1,λ b r' hb Fv EH=>?_⟩
      by_cases e:b=k
      · subst e
        rw[hr] at Fv;cases Fv
        cases hq:oh r f
        · rfl
        · exact absurd ⟨EH,hq⟩ hc
      · exact h2 b r' ar Fv EH
    · refine .inr ⟨d,r',ar,h2,h3,h4,λ b r'' hb Fv EH hh'=>?_⟩
      by_cases e:b=k
      · subst e
        rw[hr] at Fv;cases Fv
        exact absurd ⟨EH,hh'⟩ hc
      · exact h5 b r'' ar Fv EH hh'
theorem afw{f:Fc}{rs:List Rl}{b:Nat}{r:Rl}(hr:rs[b]?=O r)(h2:r.1=2)(hh:oh r f=true):
 IK (dR f rs rs.length)=false/\∃d r',TE (dR f rs rs.length)=(d:Nat)/\d<=b/\rs[d]?=O r'/\r'.1=2:=by
 have hb:=(ai.1 hr).1;rcases aeP f rs rs.length (ah _) with⟨_,h⟩|⟨d,r',h1,h3,h4,h5,h6⟩
 · rw[h b r hb hr h2] at hh;cases hh
 · refine⟨?_,d,r',?_,h6 b r hb hr h2 hh,h4,h5⟩
   · unfold IK
     rw[h3,decide_eq_false (ar:¬(d:Int)<0),Bool.and_false]
   · unfold TE
     rw[h3,if_pos ar]
end
section
open Go.RowKit Go.Maps
attribute [local go_sem] aQ aC bW
def abl:List Int->Int->List Int
 |[],n=>[n]
 |x::l,n=>if x<n then x::abl l n else if x=n then x::l else n::x::l
theorem adA:∀(l:List Int)(n:Int)(k:Nat),k<=l.length->(∀i x,i<k->l[i]?=O x->x<n)->(∀x,l[k]?=O x->n<x)->abl l n=l.take k++n::l.drop k
 |[],n,k,hk,_,_=>by
  have :k=0:=by simpa using hk
  subst this;rfl
 |x::l,n,0,_,_,h2=>by
  have :=h2 x rfl;show(if x<n then _ else _)=_;rw[if_neg ar,if_neg ar];rfl
 |x::l,n,k+1,hk,h1,h2=>by
  have :=h1 0 x ar rfl;show(if x<n then _ else _)=_;rw[if_pos this,adA l n k (by simpa using hk) (λ i y hi hy=>h1 (i+1) y ar (by simpa using hy)) (λ y hy=>h2 y (by simpa using hy))];rfl
theorem adf:∀(l:List Int)(n:Int)(k:Nat),(∀i x,i<k->l[i]?=O x->x<n)->l[k]?=O n->abl l n=l
 |[],n,k,_,h2=>by simp at h2
 |x::l,n,0,_,h2=>by
  have :x=n:=by simpa using h2
  subst this;show(if x<x then _ else _)=_;rw[if_neg ar,if_pos rfl]
 |x::l,n,k+1,h1,h2=>by
  have :=h1 0 x ar rfl;show(if x<n then _ else _)=_;rw[if_pos this,adf l n k (λ i y hi hy=>h1 (i+1) y ar (by simpa using hy)) (by simpa using h2)]
theorem adC(l:List Int)(n:Int):(abl l n).length<=l.length+1:=by
 induction l with
 |nil=>simp[abl]
 |cons x l ih=>
  unfold abl;split
  · simp;omega
  · split<;>simp
theorem adg{w:agb}{B:Nat}{A:dB}{l:List Int}(h:cG dr w B A l)(k:Nat):cG dr w B A (l.take k):=λ i hi=>by
 have Jg:i<l.length:=by rw[dh] at hi;omega
 obtain⟨b,off,cs,hA,hb,hr,hc⟩:=h i Jg;exact⟨b,off,cs,hA,hb,by rw[List.getElem_take];exact hr,hc⟩
theorem aeu{w:agb}{B b off:Nat}{l:List Int}(h:cG dr w B (O ⟨b,off,U⟩) l)(k:Nat):cG dr w B (O ⟨b,off+k,U⟩) (l.drop k):=λ i hi=>by
 have Jg:k+i<l.length:=by rw[List.length_drop] at hi;omega
 obtain⟨b',off',cs,hA,hb,hr,hc⟩:=h (k+i) Jg;simp only[cQ,Addr.mk.injEq,and_true] at hA;obtain⟨rfl,rfl⟩:=hA;refine⟨b,off+k,cs,rfl,hb,by rw[List.getElem_drop];exact hr,λ j u hu=>?_⟩;have :=hc j u hu;have e:off+k+i*dr.n+j=off+(k+i)*dr.n+j:=by show off+k+i*1+j=off+(k+i)*1+j;omega
 rw[e];exact this
theorem afx(w:agb)(B:Nat)(cs:List R)(x:Int)(h:dr.rd w B cs x):∀u∈cs,u.oneCell'=true:=λ u hu=>by obtain⟨rfl,_⟩:=h;rw[aN] at hu;subst hu;rfl
theorem abv{ops:Array Oper}{rest:List Oper}{o:Oper}{a:Act}{Q:lC}{X:agb}{base:Nat}(hgd:o.guard=U)(s x:Operand)(ho:o.op=.call {callee:=.builtin .append,args:=#[s,x],argTypes:=#[117,117]})
 (A:dB)(n c:Nat)(hs:a.eval s=G A n c)(zs:List Int)(hn:zs.length=n)(hown:cH dr 3 X base 0 (G A n c) zs)(A2:dB)(m c2:Nat)(hx:a.eval x=G A2 m c2)(ns:List Int)(hm:ns.length=m)(hns:ic dr X A2 ns)
 (h63:zs.length+m<=10000000000000)(hbase:base<=X.heap.size)
 (h:∀A' c' w',cH dr 3 w' base 0 (G A' (n+m) c') (zs++ns)->Below base X w'->wpList prog ops Q rest (a.put o.dst (G A' (n+m) c')) w'):wpList prog ops Q (o::rest) a X:=by
 subst hn hm;obtain⟨css,f1,f2,f3,f4,f5⟩:=hns.flat;refine en (T:=dr) (base:=base) (B:=0) (e:=3) (v:=G A zs.length c) (qs:=zs) hgd s x _ ho 8 zS aV cj afx hs hown A2 ns.length c2 ns css hx rfl f1 (λ i h1 h2=>f2 i h1 h2) (uJ f5 (aA _ _)) (by unfold maxLen;omega) ar hbase (ak _) ?_;intro A' c' w' h1 h2 _ _;exact h A' c' w' h1 h2
theorem afa(b off cap n:Nat)(l:List Int)(z:Int)(w:agb)(h:ic dr w (O ⟨b,off,U⟩) l)(hn:l.length=n)(hb:b<w.heap.size)(hl:n<=1000000)(hc:n<=cap)(hc2:cap<=9223372036854775807)(hz:fits z):
 Calls prog 97 #[G (O ⟨b,off,U⟩) n cap,I J z] w λ e w'=>∃A c,e=.returned (G A (abl l z).length c)/\ic dr w' A (abl l z)/\(abl l z).length<=c/\c<=9223372036854775807/\aZ w w':=by
 subst hn;have HH:=dt h hz;have hzf:=hz;unfold fits at hzf;clear h hz;go_enter func97,ntmps97;go_wp2_with fail;go_loopw [5] (λ i wr=>∃k,k<=l.length/\i=I J k/\(∀i x,i<k->l[i]?=O x->x<z)/\w=wr) (λ i _=>l.length - (intOf i).toNat)
 case atStart=>exact⟨0,ak _,rfl,(λ i x hi=>absurd hi ar),rfl⟩
 case round=>
  obtain⟨k,hk,rfl,nA,rfl⟩:=hrel;have HLO:=aG nA;clear nA;by_cases hlt:k<l.length
  · have kq:(k:Int)<(l.length:Int):=ar
    obtain⟨b',off',x,hA,hb',_,Hx,d1,x1,x2⟩:=HH.q1.fC hlt;simp only[cQ,Addr.mk.injEq,and_true] at hA;obtain⟨rfl,rfl⟩:=hA;rcases Int.lt_trichotomy x z with hxz|hxz|hxz
    · as_aux_lemma=>
      go_wp2_with fail;go_roundw
      case rel=>exact⟨k+1,ar,gC,λ i y hi hy=>by
       by_cases e:i=k
       · subst e
         rw[Hx.o] at hy;cases hy
         exact hxz
       · exact HLO.o i y ar hy,by trivial⟩
      case measure=>simp[intOf];omega
    · as_aux_lemma=>subst hxz;have hs:=adf l x k HLO.o Hx.o;have HS:=aG hs;clear hs;have n1:¬x<x:=ar;go_wp2_with fail;go_ret;exact⟨O ⟨b,off,U⟩,cap,by simp only[HS.o];rfl,by rw[HS.o];exact HH.q1,by rw[HS.o];exact hc,hc2,aA _ _⟩
    · as_aux_lemma=>
      have hp:=adA l z k ar HLO.o (λ y hy=>by rw[Hx.o] at hy;cases hy;exact hxz);have HP:=aG hp;clear hp;have n1:¬x<z:=ar;have n2:¬x=z:=ar;have n3:¬cap=k:=ar;have n4:¬k=cap:=ar
      go_wp2_with (first
       |(at_builtin;go_loud (refine abv (o:=⟨O 38,_,_,_,_,_⟩) (base:=w.heap.size) rfl _ _ rfl (O ⟨w.heap.size,0,U⟩) 0 0 rfl [] rfl ⟨[],rfl,(λ i h1 h2=>absurd h2 bY),O6 w w.heap.size 3 1 (ah _)⟩ (O ⟨b,off,U⟩) k cap rfl (l.take k) (by rw[dh];omega) ((adg HH.q1 k).keep (aj _ _) bY) gW bY ?_);intro A1 c1 w1 tr hb1;simp only[bX,eV] at tr⊢;have H1:=dt tr ((aj w _).trans hb1);clear tr hb1)
       |(at_builtin;go_loud (refine gM (o:=⟨O 42,_,_,_,_,_⟩) rfl _ _ rfl A1 k c1 rfl (l.take k) (by rw[dh];omega) (H1.q1.below (aj _ _) (ak _)) _ rfl z (au _ _ _ _ rfl) HH.t1 (by rw[dh];omega) (bm H1.t1.size bY) ?_);intro A3 c3 w3 ru DM ZO;have H3:=dt ru (Below.trans (ay H1.t1 _) (DM.aK (λ g hg=>(H1.q1.lt g hg).1) (bm H1.t1.size bY)));clear ru DM ZO)
       |(at_builtin;go_loud (refine abv (o:=⟨O 47,_,_,_,_,_⟩) (base:=w.heap.size) rfl _ _ rfl A3 (k+1) c3 rfl (l.take k++[z]) (by rw[ax,dh];simp;omega) H3.q1 _ (l.length - k) _ rfl (l.drop k) (by rw[List.length_drop]) ((aeu HH.q1 k).keep H3.t1 H3.t1.size) (by rw[ax,dh];simp;omega) H3.t1.size ?_);intro A4 c4 w4 ho4 hb4;have H4:=dt ho4 (H3.t1.trans hb4);clear ho4 hb4))
      go_ret;have hpe:abl l z=l.take k++[z]++l.drop k:=by rw[HP.o];simp
      have hle:(abl l z).length=k+1+(l.length - k):=by rw[hpe];simp;omega
      obtain⟨A',c',e,hc1,Ov⟩:=H4.q1.form;injection e with e1 e2 e3
      subst e1 e3;have hl4:=congrArg agh hpe;refine⟨A4,c4,by rw[hle];exact rfl,by rw[hpe];exact H4.q1.elems (ak _) (ah _),by rw[hpe];exact hc1,by unfold maxLen at Ov;omega,H4.t1⟩
  · as_aux_lemma=>
    obtain rfl:k=l.length:=ar;have hp:=adA l z l.length ar HLO.o (λ y hy=>by rw[cX ar] at hy;cases hy);have HP:=aG hp;clear hp;have n3:¬(l.length:Int)<(l.length:Int):=ar
    go_wp2_with (first
     |(at_builtin;go_loud (refine abv (o:=⟨O 38,_,_,_,_,_⟩) (base:=w.heap.size) rfl _ _ rfl (O ⟨w.heap.size,0,U⟩) 0 0 rfl [] rfl ⟨[],rfl,(λ i h1 h2=>absurd h2 bY),O6 w w.heap.size 3 1 (ah _)⟩ (O ⟨b,off,U⟩) l.length cap rfl (l.take l.length) (by rw[dh];omega) ((adg HH.q1 l.length).keep (aj _ _) bY) gW bY ?_);intro A1 c1 w1 tr hb1;simp only[bX,eV] at tr⊢;have H1:=dt tr ((aj w _).trans hb1);clear tr hb1)
     |(at_builtin;go_loud (refine gM (o:=⟨O 42,_,_,_,_,_⟩) rfl _ _ rfl A1 l.length c1 rfl (l.take l.length) (by rw[dh];omega) (H1.q1.below (aj _ _) (ak _)) _ rfl z (au _ _ _ _ rfl) HH.t1 (by rw[dh];omega) (bm H1.t1.size bY) ?_);intro A3 c3 w3 ru DM ZO;have H3:=dt ru (Below.trans (ay H1.t1 _) (DM.aK (λ g hg=>(H1.q1.lt g hg).1) (bm H1.t1.size bY)));clear ru DM ZO)
     |(at_builtin;go_loud (refine abv (o:=⟨O 47,_,_,_,_,_⟩) (base:=w.heap.size) rfl _ _ rfl A3 (l.length+1) c3 rfl (l.take l.length++[z]) (by rw[ax,dh];first|(simp;done)|(simp;omega)) H3.q1 _ 0 _ rfl [] rfl cG.nil (by rw[ax,dh];first|(simp;done)|(simp;omega)) H3.t1.size ?_);intro A4 c4 w4 ho4 hb4;have H4:=dt ho4 (H3.t1.trans hb4);clear ho4 hb4))
    all_goals
     go_ret;have hpe:abl l z=l.take l.length++[z]++[]:=by rw[HP.o];simp
     have hle:(abl l z).length=l.length+1+0:=by rw[hpe];simp
     obtain⟨A',c',e,hc1,Ov⟩:=H4.q1.form;injection e with e1 e2 e3
     subst e1 e3;have hl4:=congrArg agh hpe;refine⟨A4,c4,by rw[hle];exact rfl,by rw[hpe];exact H4.q1.elems (ak _) (ah _),by rw[hpe];exact hc1,by unfold maxLen at Ov;omega,H4.t1⟩
def aeQ(a:Nat)(zs:List Zn):List Int:=zs.flatMap λ z=>(atR z a).1::if(atR z a).2<(atR aP a).2 then [(atR z a).2+1] else []
def abC(a:Nat)(zs:List Zn):List Int:=(aeQ a zs).foldl abl [(atR aP a).1]
theorem aev(a:Nat)(zs:List Zn)(z:Zn):abC a (zs++[z])=if(atR z a).2<(atR aP a).2 then abl (abl (abC a zs) (atR z a).1) ((atR z a).2+1) else abl (abC a zs) (atR z a).1:=by unfold abC aeQ;rw[eJ,List.foldl_append];simp only[gZ,List.flatMap_nil,dU];split<;>rfl
theorem ada(ns l:List Int):(ns.foldl abl l).length<=l.length+ns.length:=by
 induction ns generalizing l with
 |nil=>simp
 |cons n ns ih=>
  have h1:=ih (abl l n);have h2:=adC l n;rw[List.foldl_cons,bD];omega
theorem aeR(a:Nat)(zs:List Zn):(aeQ a zs).length<=2*zs.length:=by
 unfold aeQ;induction zs with
 |nil=>simp
 |cons z zs ih=>
  rw[gZ,ax];have e:(z::zs).length=zs.length+1:=rfl;have :((atR z a).1::if(atR z a).2<(atR aP a).2 then [(atR z a).2+1] else []).length<=2:=by split<;>simp
  omega
theorem adD(a:Nat)(zs:List Zn):(abC a zs).length<=1+2*zs.length:=by have h1:=ada (aeQ a zs) [(atR aP a).1];have h2:=aeR a zs;unfold abC;simp only[bD,dG] at h1;omega
theorem afb(l:List Int)(n:Int):0<(abl l n).length:=by
 cases l with
 |nil=>simp[abl]
 |cons x l=>
  unfold abl;split
  · simp
  · split<;>simp
structure aaA(X:agb)(v:R)(l:List Int):Prop where
 form:∃b off c,v=G (O ⟨b,off,U⟩) l.length c/\b<X.heap.size/\l.length<=c/\c<=9223372036854775807/\cG dr X X.heap.size (O ⟨b,off,U⟩) l
theorem aaA.below{X X':agb}{v:R}{l:List Int}(h:aaA X v l)(hb:Below X.heap.size X X'):aaA X' v l:=by obtain⟨b,off,c,e,h1,h2,h3,h4⟩:=h.form;exact⟨b,off,c,e,dI h1 hb.size,h2,h3,h4.keep hb hb.size⟩
theorem aeS(b off c:Nat)(l:List Int)(z:Int)(X:agb)(h:aaA X (G (O ⟨b,off,U⟩) l.length c) l)(hl:l.length<=1000000)(hz:fits z):
 Calls prog 97 #[G (O ⟨b,off,U⟩) l.length c,I J z] X λ e w'=>∃b' off' c',e=.returned (G (O ⟨b',off',U⟩) (abl l z).length c')/\aaA w' (G (O ⟨b',off',U⟩) (abl l z).length c') (abl l z)/\Below X.heap.size X w':=by
 obtain⟨b',off',c',e,h1,h2,h3,h4⟩:=h.form;simp only[Value.slice.injEq,cQ,Addr.mk.injEq,and_true,true_and] at e;obtain⟨⟨rfl,rfl⟩,rfl⟩:=e;refine(afa b off c l.length l z X h4 rfl h1 hl h2 h3 hz).mono ?_;rintro e w' ⟨A,c',rfl,k1,k2,k3,k4⟩;obtain⟨b2,WB,_,rfl,hb2,_⟩:=k1 0 (afb l z);exact⟨b2,WB,c',rfl,⟨b2,WB,c',rfl,hb2,k2,k3,k1⟩,k4⟩
theorem abL:∀(rs:List Rl),(∀r∈rs,r.2.2.1.length<=200)->(bc rs).length<=200*rs.length
 |[],_=>by simp[bc]
 |r::rs,h=>by
  have h1:=abL rs (λ r hr=>h r (by simp[hr]));have h2:=h r bY;have e:bc (r::rs)=r.2.2.1++bc rs:=rfl;rw[e,ax,bD];omega
theorem aeT{z:Zn}(hz:z.length=10)(hf:∀r∈z,fits r.1/\fits r.2){a:Nat}(ha:a<10):fits (atR z a).1/\fits (atR z a).2:=by
 have e:atR z a=z[a]'ar:=by unfold atR;rw[av,af ar];rfl
 rw[e];exact hf _ (cD _)
theorem adY(A:dB)(rs:List Rl)(cap a:Nat)(w:agb)(h:cG se w w.heap.size A rs)(hl:rs.length<=200)(hz:∀r∈rs,r.2.2.1.length<=200)(ha:a<10):
 Calls prog 53 #[.agg #[G A rs.length cap],I J (a:Nat)] w λ e w'=>∃v,e=.returned v/\aaA w' v (abC a (bc rs))/\Below w.heap.size w w':=by
 have HH:=dt h hz;have hlI:(rs.length:Int)<=200:=ar;have haI:(a:Int)<10:=ar;clear h hz;go_enter func53,ntmps53
 go_upto_region 2 with(first
  |(go_at_call 96;refine(ZA _).mono ?_;rintro e w1 ⟨rfl,hb⟩;have HL:=aG hb;clear hb)
  |(refine fD (o:=⟨U,.store 90 _ _,_,_,_,_⟩) rfl _ _ _ rfl (jY aP) rfl rfl my rfl (ko aP) ?_;go_simp))
 obtain⟨lb,oy⟩:∃x,w1.heap.size=x:=⟨_,rfl⟩;rw[oy]
 have hY:Below w.heap.size w (w1.alloc (D (jY aP) 90))/\Bk (w1.alloc (D (jY aP) 90)) w.heap.size #[G A rs.length cap] 38/\Bk (w1.alloc (D (jY aP) 90)) lb (jY aP) 90:=
  ⟨ay (aq dE HL.o) _,((Bk.new w _ _).below HL.o).alloc _,au _ _ _ _ oy⟩
 refine forget (λ X=>Below w.heap.size w X/\Bk X w.heap.size #[G A rs.length cap] 38/\Bk X lb (jY aP) 90) hY ?_;clear hY HL oy;clear w1;obtain⟨pb,oU⟩:∃x,w.heap.size=x:=⟨_,rfl⟩;rw[oU];rintro X ⟨hX,hk,hl9⟩;rw[<-oU] at hX;have nA:X.cell? ⟨lb,a*2,U⟩=O (I J (atR aP a).1):=by rw[hl9.cell];exact(iC ha).1
 have vw:=D6 ha;have aky:(atR aP a).1<=(atR aP a).2:=(Ce ha (Cc [] a)).2;have l2:=hl9.lt;have l1:=hk.lt;have HX:=fH hX hk hl9;obtain⟨lo,apg⟩:∃x,(atR aP a).1=x:=⟨_,rfl⟩;have HLO:=aG apg;rw[apg] at nA vw aky;obtain⟨hi,afy⟩:∃x,(atR aP a).2=x:=⟨_,rfl⟩;have HHI:=aG afy;rw[afy] at vw aky;clear hX hk hl9 oU apg afy;go_wp2_with fail;have hP:aaA (X.alloc (D #[I J lo] 3)) (G (O ⟨X.heap.size,0,U⟩) 1 1) [lo]:=⟨X.heap.size,0,1,rfl,bY,ah _,ar,qK (zs:=[lo]) (au X _ _ _ rfl) rfl (λ z hz=>by simp at hz;subst hz;unfold fits;omega)⟩;go_loopw [7,6] (λ i s wr=>∃(j:Nat),j<=rs.length/\i=I J j/\aaA wr s (abC a (bc (rs.take j)))/\Below X.heap.size X wr) (λ i _ _=>rs.length - (intOf i).toNat)
 case atStart=>exact⟨0,ak _,rfl,by rw[show abC a (bc (rs.take 0))=[lo] by rw[<-HLO.o];rfl];exact hP,aj _ _⟩
 case round=>
  clear hP;obtain⟨j,hj,rfl,hP,bI⟩:=hrel;generalize wr=wA at *;have bp:=HX.q2.below bI;obtain⟨cp,lp⟩:=bp.cl0;by_cases hlt:j<rs.length
  · as_aux_lemma=>
    have rE:(j:Int)<(rs.length:Int):=ar;obtain⟨b,off,kd,nm,AR,zs,zc,num,rn,rd,sn,sd,rfl,pZ,Hx,e0,e1,e2,e3,e4,e5,e6,e7,Je,hz1,hz2,Yl,f1,f2⟩:=kA HH.q1 (k:=j) ar;have hbl:b<w.heap.size:=pZ;have hzl:zs.length<=200:=HH.t1 _ (az Hx.o);have hst:=uB Hx.o;have hst:bc (rs.take (j+1))=bc (rs.take j)++zs:=hst
    have hlen:(bc (rs.take j)).length<=40000:=by have :=abL (rs.take j) (λ r hr=>HH.t1 r (jB hr));rw[dh] at this;omega
    obtain⟨aaB,afI⟩:∃aaB,bc (rs.take j)=aaB:=⟨_,rfl⟩;rw[afI] at hst hlen hP;have HS:=iM hst Yl e2 hlen;have ar1:(zs.length:Int)<=200:=ar;have HP:=dt hP bI;clear hst Yl e0 e1 e2 e3 e4 e5 e6 e7 Je hz1 hz2 f1 f2 hlen afI hP bI bp;go_wp2_with fail;go_loopw [8,6] (λ i s wr=>∃(k:Nat),k<=zs.length/\i=I J k/\aaA wr s (abC a (aaB++zs.take k))/\Below X.heap.size X wr) (λ i _ _=>zs.length - (intOf i).toNat)
    case atStart=>exact⟨0,ak _,rfl,by simpa using HP.q1,HP.t1⟩
    case round=>
     clear HP cp lp;obtain⟨k,hk,rfl,hP,bI⟩:=hrel;generalize wr=wB at *;have bp:=HX.q2.below bI;have bl:=HX.t2.below bI;obtain⟨cp,lp⟩:=bp.cl0;have ll:=bl.lt;have hw:=aq HX.q1 bI;have c2:=(hw.cell (p:=⟨b,off+j*8+2,U⟩) hbl).trans HS.q3;have ml:b<wB.heap.size:=by have :=hw.size;omega
     by_cases Ij:k<zs.length
     · as_aux_lemma=>
       have kq:(k:Int)<(zs.length:Int):=ar;obtain⟨b2,WB,z,rfl,hb2,Hz,Hrd,uo,FM⟩:=M4 (HS.q2.keep hw (ah _)) Ij;have d1:wB.cell? ⟨b2,WB+k*20+a*2,U⟩=O (I J (atR z a).1):=FM.o _ _ (iC ar).1;have d2:wB.cell? ⟨b2,WB+k*20+a*2+1,U⟩=O (I J (atR z a).2):=by rw[fu];exact FM.o _ _ (iC ar).2
       obtain⟨p1,p2⟩:=aeT uo (mG Hrd.o).2.2 ha;have VY:aaB++zs.take (k+1)=(aaB++zs.take k)++[z]:=by rw[bu,Hz.o];simp
       have hos:=aev a (aaB++zs.take k) z;rw[<-VY,HHI.o] at hos;have Ri:=adD a (aaB++zs.take k);rw[ax,dh] at Ri;have hl2:=HS.t3;obtain⟨os,afK⟩:∃os,abC a (aaB++zs.take k)=os:=⟨_,rfl⟩;rw[afK] at hos Ri hP;obtain⟨r1,hr1⟩:∃x,(atR z a).1=x:=⟨_,rfl⟩;obtain⟨r3,hr3⟩:∃x,(atR z a).2=x:=⟨_,rfl⟩;rw[hr1] at d1 p1 hos;rw[hr3] at d2 p2 hos;have af5:os.length<=90000:=ar;obtain⟨b6,afc,c6,rfl,-⟩:=hP.form;have akK:b2<wB.heap.size:=by have :=hw.size;omega
       have HP:=lQ hP bI hos p1 p2;clear hP bI hos p1 p2 VY Ri hl2 afK hr1 hr3 FM Hrd Hz bp bl hw;go_upto_region 10 with fail;obtain⟨rb,kS⟩:∃x,wB.heap.size=x:=⟨_,rfl⟩;rw[kS]
       have hY:Below X.heap.size X (wB.alloc (D #[I J r1,I J r3] 88))/\aaA (wB.alloc (D #[I J r1,I J r3] 88)) (G (O ⟨b6,afc,U⟩) os.length c6) os/\Bk (wB.alloc (D #[I J r1,I J r3] 88)) rb #[I J r1,I J r3] 88:=
        ⟨ay HP.q2 _,HP.q1.below (aj _ _),au _ _ _ _ kS⟩
       refine forget (λ V=>Below X.heap.size X V/\aaA V (G (O ⟨b6,afc,U⟩) os.length c6) os/\Bk V rb #[I J r1,I J r3] 88) hY ?_;have HQ:=aG HP.t2;have hkr:=Ij;clear hY HP d1 d2 akK hb2 c2 ml cp lp ll kS;clear wB;rintro V ⟨bI,hP,hk⟩;obtain⟨ck,lk⟩:=hk.cl0;have HV:=fH bI hP hk;clear bI hP hk;go_upto_region 11 with(go_at_call 97;refine(aeS b6 afc c6 os r1 V HV.q2 ar HQ.q2).mono ?_;rintro e w3 ⟨b7,afz,c7,rfl,k1,k2⟩;have H3:=dt k1 k2;clear k1 k2);have hW:Below X.heap.size X w3/\aaA w3 (G (O ⟨b7,afz,U⟩) (abl os r1).length c7) (abl os r1)/\Bk w3 rb #[I J r1,I J r3] 88:=⟨aq HV.q1 H3.t1,H3.q1,HV.t2.below H3.t1⟩;refine forget (λ V=>Below X.heap.size X V/\aaA V (G (O ⟨b7,afz,U⟩) (abl os r1).length c7) (abl os r1)/\Bk V rb #[I J r1,I J r3] 88) hW ?_;clear hW H3 HV ck lk;clear w3 V;rintro V ⟨bI,hP,hk⟩;have hpl:=adC os r1;obtain⟨ps,hps⟩:∃ps,abl os r1=ps:=⟨_,rfl⟩;have HPS:=aG hps;rw[hps] at hpl hP⊢;obtain⟨ck,lk⟩:=hk.cl0;have bl:=HX.t2.below bI;have ll:=bl.lt;have d5:V.cell? ⟨lb,a*2+1,U⟩=O (I J hi):=by rw[bl.cell,<-HHI.o];exact(iC ha).2
       have HV:=fH bI hP hk;clear bI hP hk bl hps;refine bJ V aV aV ?_;repeat(go_big_quiet_step (fail))
       refine wpQuiet_nil (λ v=>?_);have kY:=aG (aT V v);by_cases afL:r3<hi
       · as_aux_lemma=>
         have hq:=HQ.q1;rw[if_pos afL,HPS.o] at hq;have D8:=aG hq;have afC:=HQ.t2;unfold fits at afC;clear hq;go_wp2_with (go_at_call 97;refine(aeS b7 afz c7 ps (r3+1) (ext V v) (HV.q2.below kY.o) ar (by unfold fits;omega)).mono ?_;rintro e w5 ⟨b8,af7,c8,rfl,k1,k2⟩;have H5:=dt k1 k2;clear k1 k2);go_roundw
         case rel=>exact⟨k+1,ar,gC,by rw[D8.o];exact H5.q1,aq (aq HV.q1 kY.o) H5.t1⟩
         case measure=>simp[intOf];omega
       · as_aux_lemma=>
         have hq:=HQ.q1;rw[if_neg afL,HPS.o] at hq;have D8:=aG hq;clear hq;go_wp2_with fail;go_roundw
         case rel=>exact⟨k+1,ar,gC,by rw[D8.o];exact HV.q2.below kY.o,aq HV.q1 kY.o⟩
         case measure=>simp[intOf];omega
     · as_aux_lemma=>
       obtain rfl:k=zs.length:=ar;rw[aX,<-HS.q1] at hP;have HP:=dt hP bI;clear hP bI bp bl hw;go_wp2_with fail;go_roundw
       case rel=>exact⟨j+1,ar,gC,HP.q1,HP.t1⟩
       case measure=>simp[intOf];omega
  · as_aux_lemma=>obtain rfl:j=rs.length:=ar;rw[aX] at hP;have HP:=dt hP bI;clear hP bI bp;go_wp2_with fail;go_ret;exact⟨_,rfl,HP.q1,aq HX.q1 HP.t1⟩
theorem adE(l:List Int)(n v:Int):v∈abl l n↔v=n\/v∈l:=by
 induction l with
 |nil=>simp[abl]
 |cons x l ih=>
  unfold abl;split
  · rw[aR,ih,aR]
    constructor
    · rintro(h|h|h)
      · exact .inr (.inl h)
      · exact .inl h
      · exact .inr (.inr h)
    · rintro(h|h|h)
      · exact .inr (.inl h)
      · exact .inl h
      · exact .inr (.inr h)
  · split
    · rename_i e
      subst e;rw[aR];constructor
      · intro h;exact .inr h
      · rintro(h|h)
        · exact .inl h
        · exact h
    · rw[aR]
theorem abz(ns l:List Int)(v:Int)(h:v∈l\/v∈ns):v∈ns.foldl abl l:=by
 induction ns generalizing l with
 |nil=>rcases h with h|h
       · exact h
       · cases h
 |cons n ns ih=>
  rw[List.foldl_cons];refine ih _ ?_;rcases h with h|h
  · exact .inl ((adE l n v).2 (.inr h))
  · rcases aR.1 h with h|h
    · exact .inl ((adE l n v).2 (.inl h))
    · exact .inr h
theorem afA(Z:List Zn){a:Nat}(ha:a<10):cA Z aP a<=(abC a Z).length+1:=by
 have nA:0<=(atR aP a).1:=by rcases(ar:a=0\/a=1\/a=2\/a=3\/a=4\/a=5\/a=6\/a=7\/a=8\/a=9) with rfl|rfl|rfl|rfl|rfl|rfl|rfl|rfl|rfl|rfl<;>decide
 have hm:∀v∈mA Z aP a,v∈abC a Z++[1]:=λ v hv=>by
  have hv:=((sK _).2 v).1 hv;unfold fI at hv;rcases aR.1 hv with rfl|hv
  · exact bV.2 (.inl (abz _ _ _ (.inl bY)))
  · obtain⟨z,hz,hv⟩:=dP.1 hv
    obtain⟨h1,h2⟩:=dY.1 hv;simp only[aD,decide_eq_true_eq] at h2;by_cases hzl:z<Z.length
    · refine bV.2 (.inl (abz _ _ _ (.inr ?_)))
      have V7:dK Z z∈Z:=by unfold dK;rw[av,af hzl];exact cD _
      refine dP.2 ⟨_,V7,?_⟩;simp only[aR,bH,or_false] at h1;rcases h1 with rfl|rfl
      · exact dA ..
      · rw[if_pos ar]
        simp
    · have e:dK Z z=[]:=by
       unfold dK;rw[av,cX ar];rfl
      rw[e] at h1;have e2:atR [] a=(0,0):=rfl;rw[e2] at h1;simp only[aR,bH,or_false] at h1;refine bV.2 (.inr ?_);simp only[aR,bH,or_false];rcases h1 with rfl|rfl
      · omega
      · rfl
 have :=rP (sK (fI Z (atR aP a).1 (atR aP a).2 a (List.range (Z.length+1)))).1 hm;rw[ax] at this;exact this
def abm(c:Nat->Nat):Nat->Nat
 |0=>1
 |k+1=>abm c k*c k
theorem afd(c:Nat->Nat):uz c 10=abm c 10:=by simp only[uz,abm,Nat.one_mul,Nat.mul_one];simp only[fQ]
theorem adF{c d:Nat->Nat}:∀k,(∀a,a<k->c a<=d a+1/\1<=d a)->abm c k<=2 ^ k*abm d k
 |0,_=>by simp[abm]
 |k+1,h=>by
  have ih:=adF k (λ a ha=>h a ar);obtain⟨h1,h2⟩:=h k ar;have h3:c k<=2*d k:=ar;have :=et ih h3;show abm c k*c k<=2 ^ (k+1)*(abm d k*d k)
  have e:2 ^ k*abm d k*(2*d k)=2 ^ (k+1)*(abm d k*d k):=by rw[Nat.pow_succ];simp only[fQ,Nat.mul_left_comm,jv]
  omega
theorem afe(Z:List Zn)(a:Nat):1<=cA Z aP a:=by unfold cA;exact List.length_pos_of_mem (Cc Z a)
theorem aeU(a:Nat)(Z:List Zn):1<=(abC a Z).length:=List.length_pos_of_mem (abz _ _ _ (.inl (aN.2 rfl)))
theorem adZ{Z:List Zn}(h:abm (λ a=>(abC a Z).length) 10<=3000):il (cA Z aP) 10<=1099511627776:=by have h1:=Km (c:=cA Z aP) (λ a=>afe Z a) 10;have h2:=adF (c:=cA Z aP) (d:=λ a=>(abC a Z).length) 10 (λ a ha=>⟨afA Z ha,aeU a Z⟩);rw[afd] at h1;omega
theorem aew(A:dB)(rs:List Rl)(cap:Nat)(w:agb)(h:ic se w A rs)(hl:rs.length<=200)(hz:∀r∈rs,r.2.2.1.length<=200):
 Calls prog 18 #[.agg #[G A rs.length cap],I J 3000] w λ e w'=>∃c:Int,e=.returned (I J c)/\aZ w w'/\(c<=3000->abm (λ a=>(abC a (bc rs)).length) 10<=3000):=by
 have hst:=λ(X:agb) (hX:aZ w X) (a:Nat) (ha:a<10)=>adY A rs cap a X (h.keep hX hX.size) hl hz ha;have hlen:(bc rs).length<=40000:=by have :=abL rs hz;omega
 obtain⟨d,hd⟩:∃d:Nat->Nat,(λ a=>(abC a (bc rs)).length)=d:=⟨_,rfl⟩;have hdl:∀a,d a<=80001:=λ a=>by rw[<-hd];have :=adD a (bc rs);show(abC a (bc rs)).length<=_;omega
 have HH:=fH hst hd hdl;rw[hd];clear hst hd hdl h hz hlen;go_enter func18,ntmps18;go_wp2_with fail;refine forget (λ X=>aZ w X/\Bk X w.heap.size #[G A rs.length cap] 38) ⟨aj _ _,Bk.new w _ _⟩ ?_;obtain⟨pb,oU⟩:∃x,w.heap.size=x:=⟨_,rfl⟩;rintro X ⟨hX,hk⟩;rw[oU] at hk⊢;have HX:=dt hX hk;clear hX hk oU;go_loopw [5,6] (λ s i wr=>∃(k:Nat),k<=10/\i=I J k/\s=I J (abm d k:Nat)/\abm d k<=3000/\aZ X wr) (λ _ i _=>10 - (intOf i).toNat)
 case atStart=>exact⟨0,ar,rfl,rfl,by simp[abm],aA _ _⟩
 case round=>
  obtain⟨k,hk,rfl,rfl,hp,bI⟩:=hrel;generalize wr=wB at *;have bp:=HX.t1.below bI;obtain⟨cp,lp⟩:=bp.cl0;have HL:=aG bI;clear bI bp;by_cases hlt:k<10
  · as_aux_lemma=>
    have kq:(k:Int)<10:=ar;have hs:abm d (k+1)=abm d k*d k:=rfl;have hdk:=HH.t2 k;have HE:=aG (show d k=(abC k (bc rs)).length by rw[<-HH.q2]);obtain⟨P,hP⟩:∃P,abm d k=P:=⟨_,rfl⟩;obtain⟨L,hL⟩:∃L,d k=L:=⟨_,rfl⟩;rw[hP] at hp hs⊢;rw[hL] at hs hdk HE;have hmul:P*L<=3000*80001:=et hp hdk;have tu:(P:Int)*(L:Int)=((P*L:Nat):Int):=bY;have tH:((P:Int)*(L:Int))<=240003000:=ar;have Aq:0<=(P:Int)*(L:Int):=ar;have HS:=dt hs tu;clear hs tu hmul hP hL;go_upto_region 6 with(go_at_call 53;refine(HH.q1 wB (aq HX.q1 HL.o) k hlt).mono ?_;rintro e w3 ⟨v,rfl,k1,k2⟩;obtain⟨b6,afc,c6,rfl,-⟩:=k1.form;rw[<-HE.o];have H3:=aG k2;clear k1 k2);by_cases hgt:(P:Int)*(L:Int)<=3000
    · as_aux_lemma=>
      have n1:¬(3000:Int)<(P:Int)*(L:Int):=ar;go_wp2_with fail;go_roundw
      case rel=>exact⟨k+1,ar,gC,by rw[HS.q1,HS.t1],by have :=HS.o;omega,aq HL.o H3.o⟩
      case measure=>simp[intOf];omega
    · as_aux_lemma=>have n1:(3000:Int)<(P:Int)*(L:Int):=ar;go_wp2_with fail;go_ret;exact⟨_,rfl,aq HX.q1 (aq HL.o H3.o),λ h=>absurd h ar⟩
  · as_aux_lemma=>obtain rfl:k=10:=ar;obtain⟨P,hP⟩:∃P,abm d 10=P:=⟨_,rfl⟩;have HP:=aG hP;rw[hP] at hp⊢;clear hP;go_wp2_with fail;go_ret;exact⟨_,rfl,aq HX.q1 HL.o,λ _=>by rw[HP.o];exact hp⟩
end
section
open Go.RowKit Go.Maps
theorem adG(rs:List Rl)(n k:Nat):∃k',(rs.eraseIdx n)[k]?=rs[k']?/\k<=k'/\(k<n->k'=k)/\(¬k<n->k'=k+1):=by
 by_cases h:k<n
 · exact⟨k,by rw[List.getElem?_eraseIdx,if_pos h],ah _,λ _=>rfl,λ h2=>absurd h h2⟩
 · exact⟨k+1,by rw[List.getElem?_eraseIdx,if_neg h],ar,λ h2=>absurd h2 h,λ _=>rfl⟩
theorem acL{rs:List Rl}{c:BA0}{k:Nat}:zH (rs.take k) c=false↔∀j r,j<k->rs[j]?=O r->r.2.1≠c:=by
 unfold zH;rw[List.any_eq_false];constructor
 · intro h j r hj hr e
   have hl:=(ai.1 hr).1;have hm:r∈rs.take k:=List.mem_iff_getElem?.2 ⟨j,by rw[gP,if_pos hj,hr]⟩;exact h r hm (by simpa using e)
 · intro h r hr hd
   obtain⟨j,hj⟩:=List.mem_iff_getElem?.1 hr;rw[gP] at hj;split at hj
   · rename_i hjk
     exact h j r hjk hj (by simpa using hd)
   · cases hj
theorem adH{rs:List Rl}(n:Nat)(h:jg rs=true):jg (rs.eraseIdx n)=true:=by
 unfold jg at h⊢;rw[aD,decide_eq_true_eq] at h⊢;obtain⟨h1,h2⟩:=h;have hlen:(rs.eraseIdx n).length<=rs.length:=by rw[List.length_eraseIdx];split<;>omega
 refine⟨ar,F4 λ j hj r hr=>?_⟩;obtain⟨k',e1,e2,e3,e4⟩:=adG rs n j;rw[hr] at e1
 have hb:Au rs k' r=false:=by unfold ur at h2;have :=cY.1 h2 k' (bG.2 (ai.1 e1.symm).1);rw[<-e1] at this;simpa using this
 unfold Au at hb⊢;rw[Bool.or_eq_false_iff] at hb⊢;refine⟨acL.2 λ i x hi hx=>?_,hb.2⟩;obtain⟨i',f1,f2,f3,f4⟩:=adG rs n i;rw[hx] at f1;refine(acL.1 hb.1) i' x ?_ f1.symm;by_cases hj':j<n
 · have :=e3 hj'
   have :=f3 ar;omega
 · have :=e4 hj'
   by_cases hi':i<n
   · have :=f3 hi'
     omega
   · have :=f4 hi'
     omega
theorem adh{rs:List Rl}{n:Nat}:∀r∈rs.eraseIdx n,r∈rs:=λ r hr=>(List.eraseIdx_sublist rs n).subset hr
theorem adI{rs:List Rl}{n:Nat}:∀z∈bc (rs.eraseIdx n),z∈bc rs:=λ z hz=>by unfold bc at hz⊢;obtain⟨r,hr,hz⟩:=dP.1 hz;exact dP.2 ⟨r,adh r hr,hz⟩
theorem adJ{rs:List Rl}{n:Nat}{r:Rl}{f:Fc}(hr:rs[n]?=O r)(hf:f.length=10)(hw:ik aP f)(h:r.2.2.1=[]\/¬qN rs [n] (wD rs (rs.eraseIdx n))):
 byV (dR f rs rs.length) (dR f (rs.eraseIdx n) (rs.eraseIdx n).length)=vG (dR f (rs.eraseIdx n) (rs.eraseIdx n).length):=by
 refine ae6 ?_;cases hh:oh r f
 · exact afv hr hh
 · rcases h with h|h
   · unfold oh at hh
     rw[h] at hh;cases hh
   · cases hd:wD rs (rs.eraseIdx n) f
     · rfl
     · exact absurd ⟨f,hf,hw,λ m hm=>by obtain rfl:=aN.1 hm;exact⟨r,hr,hh⟩,hd⟩ h
theorem ad8(s:JS)(al:Bool)(y:Int)(h:IK s=al)(hy:TE s=y):∃(tg si:Bool) (lim price fn fd tn td cn cd sn sd rn rd:Int),vG s=#[.bool al,.bool tg,.bool si,I J lim,I J price,I J fn,I J fd,I J tn,I J td,I J cn,I J cd,I J sn,I J sd,I J rn,I J rd,I J y]:=by subst h hy;exact⟨_,_,_,_,_,_,_,_,_,_,_,_,_,_,rfl⟩
theorem adK{rs:List Rl}{b:Nat}{rb:Rl}{g:Fc}(hb:rs[b]?=O rb)(h2:rb.1=2)(hh:oh rb g=true):
 ∃(tg si:Bool) (lim price fn fd tn td cn cd sn sd rn rd:Int) (d:Nat) (r':Rl),vG (dR g rs rs.length)=#[.bool false,.bool tg,.bool si,I J lim,I J price,I J fn,I J fd,I J tn,I J td,I J cn,I J cd,I J sn,I J sd,I J rn,I J rd,I J (d:Int)]/\d<=b/\rs[d]?=O r'/\r'.1=2:=by
 obtain⟨h1,d,r',h3,h4,h5,h6⟩:=afw hb h2 hh;obtain⟨tg,si,lim,price,fn,fd,tn,td,cn,cd,sn,sd,rn,rd,e⟩:=ad8 _ _ _ h1 h3;exact⟨tg,si,lim,price,fn,fd,tn,td,cn,cd,sn,sd,rn,rd,d,r',e,h4,h5,h6⟩
theorem adi{rs:List Rl}{m:Nat}(h:ado rs m=true):rs.length<=m/\∀r∈rs,r.2.2.1.length<=200:=by unfold ado at h;rw[aD,decide_eq_true_eq,cY] at h;refine⟨h.1,λ r hr=>?_⟩;have :=h.2 r hr;unfold abx at this;simp only[aD,decide_eq_true_eq] at this;omega
theorem aea{α:Type}{T:Ty α}{w:agb}{B:Nat}{A:dB}{xs:List α}(h:cG T w B A xs)(k:Nat):cG T w B A (xs.take k):=by intro i hi;rw[dh] at hi;have :=h i ar;rw[List.getElem_take];exact this
theorem aeb{α:Type}{T:Ty α}{w:agb}{B b off:Nat}{xs:List α}(h:cG T w B (O ⟨b,off,U⟩) xs)(k:Nat):cG T w B (O ⟨b,off+k*T.n,U⟩) (xs.drop k):=by
 intro i hi;rw[List.length_drop] at hi;obtain⟨b',off',cs,e,h1,h2,h3⟩:=h (k+i) ar;cases e
 rw[List.getElem_drop];refine⟨b,off+k*T.n,cs,rfl,h1,h2,λ j u hu=>?_⟩;have :=h3 j u hu;have e:off+k*T.n+i*T.n+j=off+(k+i)*T.n+j:=by rw[Nat.add_mul];omega
 rw[e];exact this
theorem aee{w:agb}{base:Nat}{e t:TypeId}{size:Nat}{v:R}{n:Nat}{xs:List R}{b:Nat}{C:Array R}(h:w.ownsRow base e size v n xs)(hb:Bk w b C t)(hne:t≠e):O b≠v.ownBlock:=by
 rcases h.2 with⟨rfl,_⟩|⟨g,cap,cur,rfl,_,h2,_⟩
 · simp[Value.ownBlock]
 · simp only[Value.ownBlock,ne_eq,cQ]
   rintro rfl;have h3:w.heap[b]?=O (D C t):=hb;cases h2.symm.trans h3
   exact hne rfl
theorem abn{α:Type}{T:Ty α}{w:agb}{base B:Nat}{e t:TypeId}{v:R}{qs:List α}{b:Nat}{C:Array R}(h:cH T e w base B v qs)(hb:Bk w b C t)(hne:t≠e):O b≠v.ownBlock:=by obtain⟨css,_,_,h3⟩:=h;exact aee h3 hb hne
theorem ael{base B:Nat}(X:agb)(h:base<=X.heap.size):cH se 48 (X.alloc (D #[] 48)) base B (G (O ⟨X.heap.size,0,U⟩) 0 0) []:=⟨[],rfl,λ i h=>absurd h bY,O6 X base 48 8 h⟩
theorem abH{w Z X:agb}{rs:List Rl}{pb N c8:Nat}{A8:dB}{v:R}(hws:w.heap.size<=Z.heap.size)(bI:aZ w Z)(hb:aZ Z X)(hk:cH se 48 X Z.heap.size w.heap.size (G A8 N c8) rs)(hp:Bk X pb #[v] 38)(hpl:Z.heap.size<=pb):
 ∃(pb' c9:Nat) (A9:dB),M (O ⟨pb,0,U⟩)=M (O ⟨pb',0,U⟩)/\Z.heap.size<=pb'/\Bk (X.setCell ⟨pb,0,U⟩ (G A8 N c8)) pb' #[G A9 N c9] 38/\cG se (X.setCell ⟨pb,0,U⟩ (G A8 N c8)) (X.setCell ⟨pb,0,U⟩ (G A8 N c8)).heap.size A9 rs/\aZ Z (X.setCell ⟨pb,0,U⟩ (G A8 N c8)):=by
 have pY:Only (λ g=>g=pb) X (X.setCell ⟨pb,0,U⟩ (G A8 N c8)):=(Only.refl (λ g=>g=pb) X).aS (p:=⟨pb,0,U⟩) (.inl rfl) _;have hs:=hb.size
 have h2:=hk.only pY (λ g hg=>by subst hg;omega) ar (λ g hg h=>by subst h;exact abn hk hp cj hg.symm)
 have hz:=pY.size;exact⟨pb,c8,A8,rfl,hpl,hp.aS 0 _,h2.elems ar (ah _),hb.trans (pY.aK (λ g hg=>ar) hs)⟩
theorem aeV{rs:List Rl}{qs:List Fd}(h:U4 rs qs){kd x y:Int}{g:Fc}(hq:(kd,x,y,g)∈qs):
 (¬kd=3/\∃(m:Nat) (r:Rl),rs[m]?=O r/\x=(m:Int)/\y= -1/\(r.2.2.1=[]\/¬qN rs [m] (wD rs (rs.eraseIdx m))))\/
 (kd=3/\∃(a b:Nat) (aat rb:Rl),rs[a]?=O aat/\rs[b]?=O rb/\x=(a:Int)/\y=(b:Int)/\rb.1=2/\ik aP g/\oh aat g=true/\oh rb g=true):=by
 rcases ae7 h hq with⟨h1,n,r,h2,h3,h4,h5,h6⟩|⟨h1,n,h2,h3,h4,h5⟩|⟨h1,a,b,aat,rb,h2,h3,h4,h5,h6,h7,h8,h9,h10,h11⟩
 · simp only at h1 h3 h4
   exact .inl ⟨ar,n,r,h5,h3,h4,.inl h6⟩
 · simp only at h1 h3 h4
   exact .inl ⟨ar,n,_,af h2,h3,h4,.inr h5⟩
 · exact .inr ⟨h1,a,b,aat,rb,h2,h3,h4,h5,h7,h9,h10,h11⟩
theorem aff{w:agb}{B:Nat}{A:dB}{qs:List Fd}(h:cG EN w B A qs){k:Nat}(hk:k<qs.length):
 ∃b off kd x y g,A=O ⟨b,off,U⟩/\b<B/\Hid (qs[k]?=O (kd,x,y,g))/\Hid (g.length=10/\∀v∈g,fits v)/\w.cell? ⟨b,off+k*13,U⟩=O (I J kd)/\w.cell? ⟨b,off+k*13+1,U⟩=O (I J x)/\w.cell? ⟨b,off+k*13+2,U⟩=O (I J y)/\
  w.cell? ⟨b,off+k*13+3,U⟩=O (I J (eO g 0))/\w.cell? ⟨b,off+k*13+4,U⟩=O (I J (eO g 1))/\w.cell? ⟨b,off+k*13+5,U⟩=O (I J (eO g 2))/\w.cell? ⟨b,off+k*13+6,U⟩=O (I J (eO g 3))/\w.cell? ⟨b,off+k*13+7,U⟩=O (I J (eO g 4))/\
  w.cell? ⟨b,off+k*13+8,U⟩=O (I J (eO g 5))/\w.cell? ⟨b,off+k*13+9,U⟩=O (I J (eO g 6))/\w.cell? ⟨b,off+k*13+10,U⟩=O (I J (eO g 7))/\w.cell? ⟨b,off+k*13+11,U⟩=O (I J (eO g 8))/\w.cell? ⟨b,off+k*13+12,U⟩=O (I J (eO g 9)):=by
 obtain⟨b,off,⟨kd,x,y,g⟩,cs,hA,hb,_,hx,_,⟨c1,r1,rfl,⟨rfl,_⟩,⟨c2,r2,rfl,⟨rfl,_⟩,⟨c3,r3,rfl,⟨rfl,_⟩,hg⟩⟩⟩,hc⟩:=h.pick hk;obtain⟨rfl,h1,h2⟩:=RL hg;simp only at h1;match g,h1 with
 |[g0,g1,g2,g3,g4,g5,g6,g7,g8,g9],_=>
  exact⟨b,off,kd,x,y,_,hA,hb,hx,⟨rfl,h2⟩,hc 0 _ rfl,hc 1 _ rfl,hc 2 _ rfl,hc 3 _ rfl,hc 4 _ rfl,hc 5 _ rfl,hc 6 _ rfl,hc 7 _ rfl,hc 8 _ rfl,hc 9 _ rfl,hc 10 _ rfl,hc 11 _ rfl,hc 12 _ rfl⟩
end
section
open Go.RowKit
section
variable{P:Program}{ops:Array Oper}{md:Region.Mode}{S:agb->Prop}{Q:lC}{s:Nat}{K:xD}{fuel:Nat}{k:Nat}
def adk(L:Array Bool)(r:List Nat):Array Bool:=r.foldl (λ L i=>L.setIfInBounds i true) L
def aem(md:Region.Mode)(ops:Array Oper)(s:Nat):List Nat->Array Bool->Bool
 |[],_=>true
 |i::r,L=>decide (i<s)&&decide (Region.ready md ops L=[i])&&aem md ops s r (L.setIfInBounds i true)
def chT(md:Region.Mode)(ops:Array Oper)(s k:Nat):List Nat->Array Bool->Bool
 |[],L=>decide (k<s)&&decide (Region.ready md ops L=[k])
 |i::r,L=>decide (i<s)&&decide (k<s)&&decide (Region.ready md ops L=[i,k])&&aem md ops s (i::r) (L.setIfInBounds k true)&&decide (adk (L.setIfInBounds k true) (i::r)=(adk L (i::r)).setIfInBounds k true)&&chT md ops s k r (L.setIfInBounds i true)
def aeW(P:Program)(ops:Array Oper)(S:agb->Prop)(Q:lC)(K:xD):List Nat->xD
 |[]=>K
 |i::r=>vh P ops S Q (aeW P ops S Q K r) i
def afg(P:Program)(ops:Array Oper)(S:agb->Prop)(Q:lC)(K:xD)(k:Nat):List Nat->xD
 |[]=>vh P ops S Q K k
 |i::r=>λ a w=>vh P ops S Q (afg P ops S Q K k r) i a w/\vh P ops S Q (aeW P ops S Q K (i::r)) k a w
theorem adl(hn:s<ops.size):∀(r:List Nat)(L:Array Bool)(a:Act)(w:agb),aem md ops s r L=true->(∀a' w',S w'->K a' w'->wpAnyS P md ops (gq Q) S s fuel (adk L r) a' w')->S w->aeW P ops S Q K r a w->wpAnyS P md ops (gq Q) S s (fuel+r.length) L a w
 |[],L,a,w,_,hK,hS,h=>hK a w hS h
 |i::r,L,a,w,hB,hK,hS,h=>by
  simp only[aem,aD,decide_eq_true_eq] at hB;obtain⟨⟨h1,h2⟩,h3⟩:=hB;have e:fuel+(i::r).length=(fuel+r.length)+1:=rfl;rw[e];exact uP ar h2 (λ a2 w2 FA hh=>adl hn r _ a2 w2 h3 hK FA hh) h
theorem adM(hn:s<ops.size):∀(r:List Nat)(L:Array Bool)(a:Act)(w:agb),chT md ops s k r L=true->(∀a' w',S w'->K a' w'->wpAnyS P md ops (gq Q) S s fuel ((adk L r).setIfInBounds k true) a' w')->S w->afg P ops S Q K k r a w->wpAnyS P md ops (gq Q) S s (fuel+(r.length+1)) L a w
 |[],L,a,w,hB,hK,hS,h=>by
  simp only[chT,aD,decide_eq_true_eq] at hB;exact uP ar hB.2 hK h
 |i::r,L,a,w,hB,hK,hS,h=>by
  simp only[chT,aD,decide_eq_true_eq] at hB;obtain⟨⟨⟨⟨⟨h1,h2⟩,r0⟩,h3⟩,e1⟩,h4⟩:=hB;have e:fuel+((i::r).length+1)=(fuel+(r.length+1))+1:=rfl;rw[e];refine⟨λ h0=>(by rw[r0] at h0;cases h0),λ t ht=>?_⟩;rw[r0] at ht;simp only[aR,bH,or_false] at ht;rcases ht with rfl|rfl
  · exact wpOp_mono (λ a' w' h'=>⟨λ _=>h'.1,adM hn r _ a' w' h4 hK h'.1 h'.2⟩) (kV (iZ ar) h.1)
  · exact wpOp_mono (λ a' w' h'=>⟨λ _=>h'.1,adl hn (i::r) _ a' w' h3 (by rw[e1];exact hK) h'.1 h'.2⟩) (kV (iZ ar) h.2)
theorem aeX:∀(r:List Nat)(L:Array Bool),chT md ops s k r L=true->HeadInv md ops s L->HeadInv md ops s ((adk L r).setIfInBounds k true)
 |[],L,hB,inv=>by
  simp only[chT,aD,decide_eq_true_eq] at hB;exact inv.set (by rw[hB.2];simp) hB.1
 |i::r,L,hB,inv=>by
  simp only[chT,aD,decide_eq_true_eq] at hB;obtain⟨⟨⟨⟨⟨h1,h2⟩,r0⟩,h3⟩,e1⟩,h4⟩:=hB;exact aeX r _ h4 (inv.set (by rw[r0];simp) h1)
end
theorem adB{P:Program}{id:Nat}{Q:lC}{a:Act}{w:agb}{o:List Oper}(S:agb->Prop)(fY:List (List Nat×List Nat))(r:List Nat)(k:Nat)(jK:List (List Nat×List Nat))(s:Nat)(hm:P.follows .mixedOrders=true)
 (hB:(Region.noSelect o.toArray&&decide (ez fY+(ez jK+1+(r.length+1))=o.length)&&decide (s<o.length)&&Region.sinkB .any o.toArray s&&Region.chainB .any o.toArray s&&C8 .any o.toArray s fY (Array.replicate o.length false)&&chT .any o.toArray s k r (uh fY (Array.replicate o.length false))&&
  xT .any o.toArray s jK ((adk (uh fY (Array.replicate o.length false)) r).setIfInBounds k true))=true)(hS:S w.drew)
 (h:lL P o S Q (λ a w=>afg P o.toArray S Q (λ a w=>lL P o S Q (λ a w=>wpList P o.toArray (Exit.then (λ a w=>Q .normal a w) (gq Q)) [aW o s] a w) jK a w) k r a w) fY a w.drew):(Code.region id o.toArray true).wp P Q a w:=by
 simp only[aD,decide_eq_true_eq] at hB;obtain⟨⟨⟨⟨⟨⟨⟨h1,h2⟩,h3⟩,h4⟩,h5⟩,h6⟩,h7⟩,h8⟩:=hB;refine Code.wp_mono (Q:=gq Q) (λ e a w h=>?_) ?_
 · cases e with
   |normal=>exact h
   |_=>exact h.elim
 · refine wp_region_any hm (sG (S:=S) (s:=s) _ _ _ _ ?_)
   have GP:HeadInv .any o.toArray s (Array.replicate o.length false):=
    ⟨bY,λ j oj _ hl=>(by rw[getD_replicate_false] at hl;cases hl),λ t _ ht=>getD_in (by simpa using ht) (getD_replicate_false _ _)⟩
   have inv1:=zf fY _ h6 GP;have afT:=aeX r _ h7 inv1
   have :=wo (P:=P) (md:=.any) (S:=S) (Q:=Q) (K:=λ a w=>afg P o.toArray S Q (λ a w=>lL P o S Q (λ a w=>wpList P o.toArray (Exit.then (λ a w=>Q .normal a w) (gq Q)) [aW o s] a w) jK a w) k r a w) (fuel:=ez jK+1+(r.length+1)) h1 h4 h5 (by simpa using h3) fY (Array.replicate o.length false) a w.drew hS GP h6 (λ a' w' hS' hK=>by refine adM (by simpa using h3) r _ a' w' h7 (λ a2 w2 FA hK2=>?_) hS' hK;exact rJ (P:=P) (md:=.any) (S:=S) (Q:=Q) h1 h4 h5 (by simpa using h3) jK _ a2 w2 FA afT h8 (by simpa [lL] using hK2)) (by simpa [lL] using h)
   rw[h2] at this;simpa using this
theorem abj{P:Program}{l:List Oper}{S:agb->Prop}{Q:lC}{K:xD}{i:Nat}{a:Act}{w:agb}
 (h:∀K1:xD,Hid (∀a w,S w->K a w->K1 a w)->wpList P l.toArray (Exit.then K1 (gq Q)) [aW l i] a w):vh P l.toArray S Q K i a w:=h (Nxt S K) (λ _ _ h1 h2=>⟨h1,h2⟩)
end
end Go.Proofs.YtbcpcneadjcmlaaGreatDoor
