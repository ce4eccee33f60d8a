import Derived.Test.YtbcpcneadjcmlaaGreatDoorK26
namespace Go.Proofs.YtbcpcneadjcmlaaGreatDoor
open Go.Proofs.Tryz
set_option maxRecDepth 100000
set_option maxHeartbeats 16000000
set_option linter.unusedVariables false
set_option linter.unusedSimpArgs false
open Value renaming int→I,slice→G
open IntKind renaming i64→J
open Obj renaming cells→D
open Option renaming some→O,none→U
open Go renaming Value→R,World→agb
section
open Go.RowKit Go.ChangeAt
attribute [local go_sem] aQ aC bW
def fcR(f:Fc):Array R:=(oI f).toArray
theorem acr{f:Fc}{k:Nat}(h:k<f.length):(fcR f)[k]?=O (I J (eO f k)):=by have :=Co (NA h);simpa [fcR] using this
theorem QQ{α:Type}{xs:List α}{k:Nat}{x:α}(p:α->Bool)(h:xs[k]?=O x):(xs.take (k+1)).any p=((xs.take k).any p||p x):=by rw[bu,h,kJ];simp
end
section
open Go.RowKit
def apart(x y:Rg):Prop:=min x.2 y.2<max x.1 y.1
end
section
open Go.RowKit Go.ChangeAt
attribute [local go_sem] aQ aC bW
theorem pB{s x:BA0}:∀{l:List BA0}{k:Nat},iH s (l.take k)=U->l[k]?=O x->(s=x->iH s l=O k)/\(s≠x->iH s (l.take (k+1))=U)
 |[],k,_,h=>by simp at h
 |y::l,0,_,h=>by
  simp at h;subst h;refine⟨λ e=>?_,λ e=>?_⟩
  · unfold iH;rw[if_pos e]
  · simp[iH,e]
 |y::l,k+1,hn,h=>by
  simp only[fU,iH] at hn;by_cases e:s=y
  · rw[if_pos e] at hn;cases hn
  · rw[if_neg e] at hn
    have WS:iH s (l.take k)=U:=by simpa using hn
    obtain⟨h1,h2⟩:=pB WS (by simpa using h);refine⟨λ e2=>?_,λ e2=>?_⟩
    · unfold iH;rw[if_neg e,h1 e2];rfl
    · rw[fU]
      unfold iH;rw[if_neg e,h2 e2];rfl
theorem OS{w:agb}{B:Nat}{A:dB}{xs:List BA0}(h:cG OX w B A xs){k:Nat}(hk:k<xs.length):
 ∃b off x,A=O ⟨b,off,U⟩/\b<B/\Hid (xs[k]?=O x)/\w.cell? ⟨b,off+k,U⟩=O (.string x):=by
 obtain⟨b,off,x,cs,hA,hb,_,hx,_,⟨rfl,_⟩,hc⟩:=h.pick hk;exact⟨b,off,x,hA,hb,hx,by have :=hc 0 _ rfl;simpa [show OX.n=1 from rfl] using this⟩
theorem K6:∀l:List BA0,l.map Value.string=(l.map λ s=>[Value.string s]).flatten
 |[]=>rfl
 |a::l=>by
  rw[aH,aH,fZ,<-K6 l];rfl
theorem VA{w:agb}{b t:Nat}{l:List BA0}(h:Bk w b (l.map Value.string).toArray t)(hs:∀s∈l,s.size<=maxLen)(B:Nat)(hB:b<B):cG OX w B (O ⟨b,0,U⟩) l:=by refine cG.of_block (l.map λ s=>[Value.string s]) h hB bY (λ i hi=>?_) (by rw[<-K6 l]);rw[jT];exact⟨rfl,hs _ (cD hi)⟩
theorem rZ{s:BA0}:∀{l:List BA0}{k:Nat},iH s l=O k->l[k]?=O s/\iH s (l.take k)=U
 |[],_,h=>by cases h
 |x::l,k,h=>by
  unfold iH at h;by_cases e:s=x
  · rw[if_pos e] at h
    cases h
    exact⟨by simp[e],rfl⟩
  · rw[if_neg e] at h
    cases h2:iH s l with
    |none=>rw[h2] at h;cases h
    |some j=>
     rw[h2] at h;cases h
     obtain⟨h3,h4⟩:=rZ h2;refine⟨by simpa using h3,?_⟩;rw[fU];unfold iH;rw[if_neg e,h4];rfl
abbrev agy:BA0:=⟨#[107,105,110,100]⟩
abbrev VC:BA0:=⟨#[108,101,118,101,108]⟩
abbrev VD:BA0:=⟨#[98,108,111,99,107]⟩
def VE(L:Nm)(nm nn:BA0)(n m:Int):Prop:=
 (nn=jw/\m=n)\/(nn≠jw/\((nm=agy/\∃k:Nat,m=k/\iH nn sw=O k)\/(nm=VC/\∃k:Nat,m=k/\iH nn L.1=O k)\/(nm=VD/\∃k:Nat,m=k/\iH nn L.2=O k)))
theorem acs{L:Nm}{t:Ts}(h:(eI L t).1=0):VE L t.1 t.2.2.1 t.2.2.2.1 (eI L t).2.2:=by
 unfold eI at h⊢;cases ha:iH t.1 gu with
 |none=>rw[ha] at h;simp at h
 |some a=>
  rw[ha] at h;simp only at h⊢;split at h
  · simp at h
  · rename_i hc
    rw[if_neg hc];by_cases Ud:t.2.2.1=jw
    · rw[if_pos Ud] at h⊢
      simp only at h⊢;split at h
      · simp at h
      · rename_i hr
        rw[if_neg hr];exact .inl ⟨Ud,rfl⟩
    · rw[if_neg Ud] at h⊢
      have akX:a=4\/a=5\/a=6:=by
       by_cases q:a=4\/a=5\/a=6
       · exact q
       · exact absurd (.inr (.inr ⟨Ud,q⟩)) hc
      have hat:=(rZ ha).1;cases hi:iH t.2.2.1 (oq L a) with
      |none=>rw[hi] at h;simp at h
      |some k=>
       rw[hi] at h;simp only[ja] at h⊢;split at h
       · simp at h
       · rename_i hr
         rw[if_neg hr];refine .inr ⟨Ud,?_⟩;rcases akX with rfl|rfl|rfl
         · exact .inr (.inl ⟨(aO hat).symm,k,rfl,hi⟩)
         · exact .inr (.inr ⟨(aO hat).symm,k,rfl,hi⟩)
         · exact .inl ⟨(aO hat).symm,k,rfl,hi⟩
theorem uE{a b:BA0}(h:a≠b):(a.toList==b.toList)=false:=JT h
theorem OT:(jw:BA0).toList=[]:=by rw[ByteArray.toList_eq];rfl
theorem YT{a:BA0}(h:a≠jw):a.toList.isEmpty=false:=by
 have h1:=uE h;rw[OT] at h1;cases h2:a.toList with
 |nil=>rw[h2] at h1;simp at h1
 |cons x l=>rfl
theorem VF(nm nn hn:BA0)(op n fR x y m:Int)(AH:dB)(lh:List Le)(ch:Nat)(w:agb)(B:Nat)(h:cG Ji w B AH lh)(hB:B<=w.heap.size)(tu:lh.length<=10)(tH:∀l∈lh,l.2.2.1.length+l.2.2.2.1.length<=50)(L:Nm)(hL:(kX lh,kI lh)=L)(hN:VE L nm nn n m):
 Calls prog 35 #[.agg #[.string nm,I J op,.string nn,I J n,I J fR],.agg #[.string hn,I J x,I J y,G AH lh.length ch]] w (jL (I J m) w):=by
 have HH:=fH h tH hL;clear h tH hL;go_enter func35,ntmps35;go_upto_region 1 with fail;obtain⟨tb,uG⟩:∃z,w.heap.size=z:=⟨_,rfl⟩;obtain⟨hb,rK⟩:∃z,tb+1=z:=⟨_,rfl⟩;rw[uG,rK];have b0:aZ w ((w.alloc (D #[.string nm,I J op,.string nn,I J n,I J fR] 109)).alloc (D #[.string hn,I J x,I J y,G AH lh.length ch] 26)):=dE;have k1:=(au w tb #[.string nm,I J op,.string nn,I J n,I J fR] 109 uG).alloc (D #[.string hn,I J x,I J y,G AH lh.length ch] 26);have k2:=au (w.alloc (D #[.string nm,I J op,.string nn,I J n,I J fR] 109)) hb #[.string hn,I J x,I J y,G AH lh.length ch] 26 gW;refine forget (λ X=>Bk X tb #[.string nm,I J op,.string nn,I J n,I J fR] 109/\Bk X hb #[.string hn,I J x,I J y,G AH lh.length ch] 26/\aZ w X) ⟨k1,k2,b0⟩ ?_;clear b0 k1 k2 uG rK;rintro X ⟨h1,h2,h3⟩;obtain⟨c1,l1⟩:=h1.cl0;obtain⟨c2,l2⟩:=h2.cl0;have HX:=fH h1 h2 h3;clear h1 h2 h3;rcases hN with⟨rfl,rfl⟩|⟨hne,hN⟩
 · have hq:(jw:BA0).toList.isEmpty=true:=by rw[OT];rfl
   go_wp2_with fail;go_ret;exact⟨rfl,HX.t2⟩
 · have hq:nn.toList.isEmpty=false:=YT hne
   have HNm:=aG hN;clear hN;go_upto_region 4 with fail;obtain⟨kb,hkb⟩:∃z,X.heap.size=z:=⟨_,rfl⟩;rw[hkb];have b1:=aj X (D (sw.map Value.string).toArray 9);have k3:=au X kb (sw.map Value.string).toArray 9 hkb;refine forget (λ X=>Bk X tb #[.string nm,I J op,.string nn,I J n,I J fR] 109/\Bk X hb #[.string hn,I J x,I J y,G AH lh.length ch] 26/\Bk X kb (sw.map Value.string).toArray 9/\aZ w X) ⟨HX.q1.below b1,HX.q2.below b1,k3,HX.t2.trans (b1.mono HX.t2.size)⟩ ?_;clear b1 k3 c1 l1 c2 l2 hkb HX;clear X;rintro X ⟨h1,h2,h3,h4⟩;obtain⟨c1,l1⟩:=h1.cl0;have l3:=h3.lt;have HE:Hid (ic OX X (O ⟨kb,0,U⟩) sw):=aG (VA h3 cj _ h3.lt);have HX:=fH h1 h2 h4;clear h1 h2 h3 h4;clear c1 l1 l3;rcases HNm.o with⟨rfl,k,rfl,hk⟩|JB
   · go_wp2_with fail
     go_loopw [6] (λ i wr=>∃j:Nat,j<=4/\i=I J j/\iH nn (sw.take j)=U/\aZ X wr) (λ i _=>4 - (intOf i).toNat)
     case atStart=>exact⟨0,ar,rfl,rfl,aA _ _⟩
     case round=>
      obtain⟨j,hj,rfl,hnone,hwr⟩:=hrel;generalize wr=wA at *;by_cases hlt:j<4
      · obtain⟨b,off,z,e,hb',Hk,c0⟩:=OS (HE.o.keep hwr hwr.size) (show j<sw.length from hlt)
        cases e
        have rE:(j:Int)<4:=ar;have h1:=HX.q1.below hwr;obtain⟨c1,l1⟩:=h1.cl0;have JR:=aG (pB hnone Hk.o);have HB:=aG hwr;have hbl:kb<wA.heap.size:=hb';have c0':wA.cell? ⟨kb,j,U⟩=O (.string z):=by simpa using c0
        clear hnone hwr h1 c0 hb';by_cases he:nn=z
        · subst he
          have hkj:k=j:=by have :=JR.q1 rfl;rw[hk] at this;exact aO this
          have JL:(k:Int)=(j:Int):=ar;go_upto_region 7 with fail;refine bJ _ aV aV ?_;repeat(go_big_quiet_step (fail))
          refine wpQuiet_nil (λ v=>?_);go_wp2_with fail;go_ret;exact⟨rfl,HX.t2.trans ((HB.o.trans ((aT wA v).mono HB.o.size)).mono HX.t2.size)⟩
        · have Ti:(z.toList==nn.toList)=false:=uE (λ e=>he e.symm)
          go_upto_region 7 with fail;refine bJ _ aV aV ?_;repeat(go_big_quiet_step (fail))
          refine wpQuiet_nil (λ v=>?_);go_wp2_with fail;go_roundw
          case rel=>exact⟨j+1,ar,gC,JR.t1 he,HB.o.trans ((aT wA v).mono HB.o.size)⟩
          case measure=>simp[intOf];omega
      · obtain rfl:j=4:=ar
        exact absurd (hk.symm.trans hnone) bY
   · have agz:∃eL eB:Bool,(nm.toList== [108,101,118,101,108])=eL/\(nm.toList== [98,108,111,99,107])=eB/\(nm.toList== [107,105,110,100])=false/\∃k:Nat,m=k/\((eL=true/\eB=false/\iH nn L.1=O k)\/(eL=false/\eB=true/\iH nn L.2=O k)):=by
      have e1:VC.toList=[108,101,118,101,108]:=by rw[ByteArray.toList_eq]
      have e2:VD.toList=[98,108,111,99,107]:=by rw[ByteArray.toList_eq]
      rcases JB with⟨rfl,k,hm,hk⟩|⟨rfl,k,hm,hk⟩
      · exact⟨true,false,by rw[e1];rfl,by rw[e1];rfl,by rw[e1];rfl,k,hm,.inl ⟨rfl,rfl,hk⟩⟩
      · exact⟨false,true,by rw[e2];rfl,by rw[e2];rfl,by rw[e2];rfl,k,hm,.inr ⟨rfl,rfl,hk⟩⟩
     obtain⟨eL,eB,hqL,hqB,hqK,m',rfl,hsp⟩:=agz;have HSP:=aG hsp;clear JB HNm hsp;go_wp2_with fail;go_loopw [6] (λ i wr=>∃j:Nat,j<=4/\i=I J j/\aZ X wr) (λ i _=>4 - (intOf i).toNat)
     case atStart=>exact⟨0,ar,rfl,aA _ _⟩
     case round=>
      obtain⟨j,hj,rfl,hwr⟩:=hrel;generalize wr=wA at *;by_cases hlt:j<4
      · as_aux_lemma=>
        have rE:(j:Int)<4:=ar;have h1:=HX.q1.below hwr;obtain⟨c1,l1⟩:=h1.cl0;have HB:=aG hwr;clear hwr h1;go_upto_region 7 with fail;refine bJ _ aV aV ?_;repeat(go_big_quiet_step (fail))
        refine wpQuiet_nil (λ v=>?_);go_wp2_with fail;go_roundw
        case rel=>exact⟨j+1,ar,gC,HB.o.trans ((aT wA v).mono HB.o.size)⟩
        case measure=>simp[intOf];omega
      · obtain rfl:j=4:=ar
        have h2:=HX.q2.below hwr;have HB:=fH (HX.q1.below hwr) h2 (HX.t2.trans (hwr.mono HX.t2.size));clear hwr h2 HX HE;go_wp2_with fail;go_loopw [8,7] (λ i c wr=>∃k:Nat,k<=lh.length/\i=I J k/\c=I J (kh lh k)/\(eL=true->iH nn ((kX lh).take k)=U)/\(eB=true->iH nn ((kI lh).take (kh lh k))=U)/\aZ wA wr) (λ i _ _=>lh.length - (intOf i).toNat)
        case atStart=>exact⟨0,ar,rfl,rfl,λ _=>rfl,λ _=>rfl,aA _ _⟩
        case round=>
         obtain⟨k,hk,rfl,rfl,Yu,hnB,hwr⟩:=hrel;generalize wr=w1 at *;have h1:=HB.q1.below hwr;have h2:=HB.q2.below hwr;have hw:=HB.t2.trans (hwr.mono HB.t2.size);obtain⟨c1,l1⟩:=h1.cl0;obtain⟨c2,l2⟩:=h2.cl0;have hoB:=B5 HH.q2 k;by_cases hlt:k<lh.length
         · as_aux_lemma=>
           obtain⟨b,off,VG,ht,AB,bs,cb,AA,tk,ca,q1,q2,q3,YU,rfl,hb',Hk,d0,d1,d2,d3,d4,d5,d6,d7,g1,g2,g3,gB,gA⟩:=GJ (HH.q1.keep (hw.mono hB) (ah _)) hlt;have qf:=HH.q2 _ (az Hk.o);simp only at qf;have kq:(k:Int)<(lh.length:Int):=ar;have hbl:b<w1.heap.size:=by have :=hw.size;omega
           have FH:=lQ (HH.q1.keep (hw.mono hB) (ah _)) h1 h2 hw hwr;clear h1 h2 hw hwr;go_upto_region 14 with fail;clear c1 l1 c2 l2 d0 d1 d2 d3 d4 d5 d6 d7;obtain⟨vb,EZ⟩:∃z,w1.heap.size=z:=⟨_,rfl⟩;rw[EZ];have b1:=aj w1 (D #[.string VG,I J ht,G AB bs.length cb,G AA tk.length ca,G q1.1 q1.2.1 q1.2.2,G q2.1 q2.2.1 q2.2.2,G q3.1 q3.2.1 q3.2.2,I J YU] 85);have hsz:=FH.q4.size;have agA:=FH.t4.size;refine forget (λ Z=>Bk Z tb #[.string nm,I J op,.string nn,I J n,I J fR] 109/\Bk Z hb #[.string hn,I J x,I J y,G (O ⟨b,off,U⟩) lh.length ch] 26/\Bk Z vb #[.string VG,I J ht,G AB bs.length cb,G AA tk.length ca,G q1.1 q1.2.1 q1.2.2,G q2.1 q2.2.1 q2.2.2,G q3.1 q3.2.1 q3.2.2,I J YU] 85/\aZ w Z/\aZ wA Z/\cG Ze Z B AB bs/\cG Zf Z B AA tk/\B<=Z.heap.size) ⟨FH.q2.below b1,FH.q3.below b1,au _ _ _ _ EZ,FH.q4.trans (b1.mono hsz),FH.t4.trans (b1.mono agA),gB.o.keep (b1.mono ar) (ah _),gA.o.keep (b1.mono ar) (ah _),by have :=b1.size;omega⟩ ?_;clear b1 hsz agA EZ FH gA gB;rintro w2 ⟨h1,h2,h3,h4,h5,h6⟩;obtain⟨c1,l1⟩:=h1.cl0;obtain⟨c3,l3⟩:=h3.cl0;have HW:=uF h1 h2 h3 h4 h5 h6;clear h1 h2 h3 h4 h5 h6;by_cases Iz:eL=true/\nn=VG
           · obtain⟨rfl,rfl⟩:=Iz
             have hkm:m'=k:=by
              rcases HSP.o with⟨_,_,h9⟩|⟨h9,_⟩
              · have hx:(kX lh)[k]?=O nn:=by unfold kX;rw[bQ,Hk.o];rfl
                have :=(pB (Yu rfl) hx).1 rfl;rw[<-HH.t2] at h9;rw[h9] at this;exact aO this
              · cases h9
             subst hkm;go_wp2_with fail;go_ret;exact⟨rfl,HW.q4⟩
           · have agB:eL=true->iH nn ((kX lh).take (k+1))=U:=λ e=>by
              have hx:(kX lh)[k]?=O VG:=by unfold kX;rw[bQ,Hk.o];rfl
              exact(pB (Yu e) hx).2 λ e2=>Iz ⟨e,e2⟩
             have ak0:eL=false\/(eL=true/\(VG.toList==nn.toList)=false):=by
              cases eL
              · exact .inl rfl
              · exact .inr ⟨rfl,uE λ e=>Iz ⟨rfl,e.symm⟩⟩
             have HNL:=fH agB Yu hnB;clear Iz agB Yu hnB;rcases ak0 with rfl|⟨rfl,Ti⟩
             case' inl=>go_upto_region 16 with fail
             case' inr=>go_upto_region 16 with fail
             all_goals(
              as_aux_lemma=>
              clear c1 l1 c3 l3;go_wp2_with fail;go_loopw [10,7] (λ i c wr=>∃q:Nat,q<=bs.length+tk.length/\i=I J q/\c=I J ((kh lh k+q:Nat):Int)/\(eB=true->iH nn ((kI lh).take (kh lh k+q))=U)/\aZ w2 wr) (λ i _ _=>bs.length+tk.length - (intOf i).toNat)
              case atStart=>exact⟨0,ar,rfl,rfl,HNL.t2,aA _ _⟩
              case round=>
               obtain⟨q,hq,rfl,rfl,hnq,hwr⟩:=hrel;generalize wr=w3 at *;have h1:=HW.q1.below hwr;have h3:=HW.q3.below hwr;obtain⟨c1,l1⟩:=h1.cl0;obtain⟨c3,l3⟩:=h3.cl0;have HB3:=aG hwr;have asq:=hwr.size;clear h1 h3;by_cases hql:q<bs.length+tk.length
               · have hqi:(q:Int)<(bs.length:Int)+(tk.length:Int):=ar
                 have HQn:=aG hnq;clear hnq
                 have VH:∃nmq:BA0,(BJ (VG,ht,bs,tk,q1,q2,q3,YU))[q]?=O (VG++Jf++nmq)/\nmq.size<=1125899906842624/\((∃b0 o0,AB=O ⟨b0,o0,U⟩/\b0<w3.heap.size/\q<bs.length/\w3.cell? ⟨b0,o0+q*3,U⟩=O (.string nmq))\/(∃b0 o0,AA=O ⟨b0,o0,U⟩/\b0<w3.heap.size/\bs.length<=q/\w3.cell? ⟨b0,o0+(q - bs.length)*7,U⟩=O (.string nmq))):=by
                  have eB3:=HW.q6.keep (HB3.o.mono HW.t7) (ah _);have eA3:=HW.q7.keep (HB3.o.mono HW.t7) (ah _);have hBz:=HW.t7;by_cases hc:q<bs.length
                  · obtain⟨b0,o0,z,z1,z2,e,hb0,hz,c0,_,_,gz⟩:=NF eB3 hc
                    refine⟨z,?_,gz,.inl ⟨b0,o0,e,ar,hc,c0⟩⟩;simp[BJ,bM,hc,(ai.1 hz.o).2]
                  · obtain⟨b0,o0,z,z1,z2,z3,z4,z5,z6,e,hb0,hz,c0,_,_,_,_,_,_,gz⟩:=NG eA3 (k:=q - bs.length) ar
                    refine⟨z,?_,gz,.inr ⟨b0,o0,e,ar,ar,c0⟩⟩;simp[BJ,bP,Nat.le_of_not_lt hc,hz.o]
                 obtain⟨nmq,pX,ast,VH⟩:=VH;have HBK:=aG (SR Hk.o pX);have hmq:q<=50:=ar;have oJ:kh lh k+q<600:=ar;clear pX qf;obtain⟨s1,hs1⟩:∃z,VG++Jf=z:=⟨_,rfl⟩;obtain⟨s2,hs2⟩:∃z,s1++nmq=z:=⟨_,rfl⟩;have ad3:∀w,(Op.stringOp .add VG ⟨#[46]⟩).run prog w=.ok (.string s1) w:=λ w=>hs1▸run_string_add_sum w _ _ (by have :(⟨#[46]⟩:BA0).size=1:=rfl;omega);have ak2:s1.size=VG.size+1:=by rw[<-hs1,ByteArray.size_append];rfl
                 have ad4:∀w,(Op.stringOp .add s1 nmq).run prog w=.ok (.string s2) w:=λ w=>hs2▸run_string_add_sum w _ _ ar;rw[hs1,hs2] at HBK;clear hs1 hs2 ak2;rcases VH with⟨b0,o0,rfl,hb0,hc,c0⟩|⟨b0,o0,rfl,hb0,hc,c0⟩
                 case' inl=>have hci:(q:Int)<(bs.length:Int):=ar;go_upto_region 23 with fail
                 case' inr=>have hci:¬(q:Int)<(bs.length:Int):=ar;have Hb:(q:Int)- (bs.length:Int)=((q - bs.length:Nat):Int):=ar;have RP:q - bs.length<tk.length:=ar;go_upto_region 23 with fail
                 all_goals(
                  by_cases hfd:eB=true/\s2=nn
                  · obtain⟨rfl,rfl⟩:=hfd
                    have hkm:m'=kh lh k+q:=by
                     rcases HSP.o with⟨_,h9,_⟩|⟨_,_,h9⟩
                     · cases h9
                     · have :=(pB (HQn.o rfl) HBK.o).1 rfl
                       rw[<-HH.t2] at h9;rw[h9] at this;exact aO this
                    subst hkm;go_wp2_with fail;go_ret;exact⟨rfl,HW.q4.trans (HB3.o.mono HW.q4.size)⟩
                  · have D8:Hid (eB=true->iH nn ((kI lh).take (kh lh k+q+1))=U):=aG λ e=>(pB (HQn.o e) HBK.o).2 λ e2=>hfd ⟨e,e2.symm⟩
                    have hcm:eB=false\/(eB=true/\(s2.toList==nn.toList)=false):=by
                     cases eB
                     · exact .inl rfl
                     · exact .inr ⟨rfl,uE λ e=>hfd ⟨rfl,e⟩⟩
                    clear hfd;rcases hcm with rfl|⟨rfl,hq9⟩
                    · go_wp2_with fail
                      go_roundw
                      case rel=>exact⟨q+1,ar,gC,gC,(λ e=>by cases e),HB3.o⟩
                      case measure=>simp[intOf];omega
                    · go_wp2_with fail
                      go_roundw
                      case rel=>exact⟨q+1,ar,gC,gC,λ _=>D8.o rfl,HB3.o⟩
                      case measure=>simp[intOf];omega)
               · obtain rfl:q=bs.length+tk.length:=ar
                 have HQn:=aG hnq;clear hnq;have hoS:kh lh (k+1)=kh lh k+(bs.length+tk.length):=by rw[zk Hk.o];simp[BJ]
                 go_wp2_with fail;refine⟨?_,?measure⟩
                 case measure=>simp[intOf];omega
                 repeat(apply Exists.intro)
                 refine⟨?relq,rfl⟩
                 case relq=>exact⟨k+1,ar,gC,by rw[hoS],HNL.q1,λ e=>by rw[hoS];exact HQn.o e,HW.q5.trans (HB3.o.mono HW.q5.size)⟩)
         · obtain rfl:k=lh.length:=ar
           exfalso
           have hL:=HH.t2;rcases HSP.o with⟨h8,_,h9⟩|⟨_,h8,h9⟩
           · have :=Yu h8
             rw[cU (by simp[kX])] at this;rw[<-hL] at h9;rw[h9] at this;cases this
           · have :=hnB h8
             rw[cU (by unfold kh;rw[aX];exact ah _)] at this;rw[<-hL] at h9;rw[h9] at this;cases this
def opB(op v n:Int):Bool:=if op=1 then decide (v=n) else if op=2 then decide (v≠n) else if op=3 then decide (v<n) else if op=4 then decide (v<=n) else if op=5 then decide (n<v) else decide (n<=v)
def zQ(L:Nm)(f:Fc)(t:Ts):Bool:=opB t.2.1 (eO f (eI L t).2.1) (eI L t).2.2
def IA(L:Nm)(f:Fc)(ws:List (List Ts)):Bool:=(ws.any λ l=>l.all (zQ L f))||decide (ws=[])
theorem YV{L:Nm}{t:Ts}(h:(eI L t).1=0):iH t.1 gu=O (eI L t).2.1/\1<=t.2.1/\t.2.1<=6:=by
 unfold eI at h⊢;cases ha:iH t.1 gu with
 |none=>rw[ha] at h;simp at h
 |some a=>
  rw[ha] at h;simp only at h⊢;split at h
  · simp at h
  · rename_i hc
    rw[if_neg hc];split at h
    · simp at h
    · rename_i hm
      split at h
      · simp at h
      · rename_i hr
        rw[if_neg hr];exact⟨rfl,ar,ar⟩
def vQ(k a:Nat)(r:Bool):Bool:=if k<a then r else false
theorem YW(k:Nat)(r:Bool):vQ k 0 r=false:=by simp[vQ]
theorem VI{k:Nat}(h:k<10)(r:Bool):vQ k 10 r=r:=by simp[vQ,h]
theorem kj(k:Nat)(r:Bool):vQ k (k+1) r=r:=by simp[vQ]
theorem VJ{k a:Nat}(h:k≠a)(r:Bool):vQ k (a+1) r=vQ k a r:=by
 unfold vQ;by_cases h1:k<a
 · rw[if_pos h1,if_pos ar]
 · rw[if_neg h1,if_neg ar]
theorem Nb:∀a b:Fin 10,gu.getD a.1 jw=gu.getD b.1 jw->a=b:=cj
theorem QT{a b:Nat}{s:BA0}(ha:gu[a]?=O s)(hb:gu[b]?=O s):a=b:=by have h1:a<10:=(ai.1 ha).1;have h2:b<10:=(ai.1 hb).1;have :=Nb ⟨a,h1⟩ ⟨b,h2⟩ (by simp only[av,ha,hb]);exact congrArg Fin.val this
theorem K7(kd:Int)(inm:BA0)(AW:dB)(ws:List (List Ts))(cw:Nat)(iN rn rd sn sd Nc:Int)(hn:BA0)(x y:Int)(AH:dB)(lh:List Le)(ch:Nat)(f:Fc)(w:agb)(B:Nat)(hW:cG (eF Fs) w B AW ws)(h:cG Ji w B AH lh)(hB:B<=w.heap.size)(hl:ws.length<=9223372036854775807)(tu:lh.length<=10)(tH:∀l∈lh,l.2.2.1.length+l.2.2.2.1.length<=50)(L:Nm)(hL:(kX lh,kI lh)=L)(hf:f.length=10)
 (hT:∀l∈ws,∀t∈l,(eI L t).1=0)(r:Bool)(hr:IA L f ws=r):
 Calls prog 12 #[.agg #[I J kd,.string inm,G AW ws.length cw,I J iN,I J rn,I J rd,I J sn,I J sd,I J Nc],.agg #[.string hn,I J x,I J y,G AH lh.length ch],.agg (fcR f)] w (jL (.bool r) w):=by
 have HH:=iM hW hr hf hT;have HT:=aG (λ(nm:BA0) (op:Int) (nn:BA0) (n fR:Int) (X:agb) (hX:Below w.heap.size w X) (m:Int) (hm:VE L nm nn n m)=>VF nm nn hn op n fR x y m AH lh ch X B (h.keep (hX.mono hB) (ah _)) (by have :=hX.size;omega) tu tH L hL hm);clear hW hr h tH hL hT;go_enter func12,ntmps12;go_upto_region 1 with(fail);obtain⟨ib,hib⟩:∃z,w.heap.size=z:=⟨_,rfl⟩;refine forget (λ X=>Below w.heap.size w X/\Bk X ib #[I J kd,.string inm,G AW ws.length cw,I J iN,I J rn,I J rd,I J sn,I J sd,I J Nc] 52/\Bk X (w.heap.size+1) #[.string hn,I J x,I J y,G AH lh.length ch] 26/\Bk X (w.heap.size+1+1) (fcR f) 31) ⟨dE,hib▸((Bk.new w _ _).alloc _).alloc _,(au _ _ _ _ bY).alloc _,au _ _ _ _ bY⟩ ?_;rw[hib];obtain⟨hb,rK⟩:∃z,ib+1=z:=⟨_,rfl⟩;obtain⟨fb,qI⟩:∃z,hb+1=z:=⟨_,rfl⟩;rw[rK,qI];clear rK qI;rintro X ⟨h0,h2,h3,h4⟩;have h1:Below w.heap.size w X:=by rw[hib];exact h0
 clear hib h0;have HX:=iM h1 h2 h3 h4;clear h1 h2 h3 h4;go_upto_region 2 with(fail);obtain⟨kb,hkb⟩:∃z,X.heap.size=z:=⟨_,rfl⟩;rw[hkb];have b1:=aj X (D (gu.map Value.string).toArray 9);have k3:=au X kb (gu.map Value.string).toArray 9 hkb;refine forget (λ Z=>Below w.heap.size w Z/\Bk Z ib #[I J kd,.string inm,G AW ws.length cw,I J iN,I J rn,I J rd,I J sn,I J sd,I J Nc] 52/\Bk Z hb #[.string hn,I J x,I J y,G AH lh.length ch] 26/\Bk Z fb (fcR f) 31/\Bk Z kb (gu.map Value.string).toArray 9) ⟨HX.q1.trans (b1.mono HX.q1.size),HX.q2.below b1,HX.q3.below b1,HX.t3.below b1,k3⟩ ?_;clear b1 k3 hkb HX;clear X;rintro X ⟨h1,h2,h3,h4,h5⟩;have HE:Hid (cG OX X X.heap.size (O ⟨kb,0,U⟩) gu):=aG (VA h5 cj _ h5.lt);have HX:=iM h1 h2 h3 h4;have kq:=h5.lt;clear h1 h2 h3 h4 h5;go_wp2_with fail;go_loopw [8] (λ i wr=>∃(k:Nat),k<=ws.length/\i=I J k/\(ws.take k).any (λ l=>l.all (zQ L f))=false/\Below X.heap.size X wr) (λ i _=>ws.length - (intOf i).toNat)
 case atStart=>exact⟨0,ar,rfl,rfl,aA _ _⟩
 case round=>
  obtain⟨k,hk,rfl,qj,hwr⟩:=hrel;generalize wr=wA at *;have hzA:=hwr.size;have B0:=HX.q2.below hwr;have c0:wA.cell? ⟨ib,2,U⟩=O (G AW ws.length cw):=B0.cell 2;have l0:=B0.lt;clear B0;by_cases hlt:k<ws.length
  · obtain⟨b,off,A1,l,c1,rfl,pZ,Hk,g0,gl,HEl⟩:=CF (HH.q1.keep ((HX.q1.trans (hwr.mono HX.q1.size)).mono hB) (ah _)) hlt
    have C7:(k:Int)<(ws.length:Int):=ar;have bw:b<wA.heap.size:=by have :=HX.q1.size;omega
    have hat:=QQ (λ l=>l.all (zQ L f)) Hk.o;rw[qj,Bool.false_or] at hat;have HA:=dt hat hwr;clear hat qj hwr;go_wp2_with fail;go_loopw [9,10] (λ b j wr=>∃(q:Nat),q<=l.length/\j=I J q/\b=.bool ((l.take q).all (zQ L f))/\Below wA.heap.size wA wr) (λ _ j _=>l.length - (intOf j).toNat)
    case atStart=>exact⟨0,ar,rfl,rfl,aA _ _⟩
    case round=>
     obtain⟨q,hq,rfl,rfl,hw2⟩:=hrel;generalize wr=w2 at *;have hz2:=hw2.size;have Z8:=HA.t1.trans (hw2.mono hzA);have B0:=HX.q2.below Z8;have B1:=HX.q3.below Z8;have B2:=HX.t3.below Z8;have e0:w2.cell? ⟨ib,2,U⟩=O (G (O ⟨b,off,U⟩) ws.length cw):=B0.cell 2;have e1:w2.cell? ⟨b,off+k,U⟩=O (G A1 l.length c1):=(hw2.cell (p:=⟨_,_,U⟩) bw).trans g0;have m0:=B0.lt;have mb:b<w2.heap.size:=ar;have HB:=fH B1 B2 hw2;clear B0 B1 B2 hw2 Z8;by_cases hlq:q<l.length
     · obtain⟨tb,to',nm,op,nn,n,fR,rfl,uG,Hq,t0,t1,t2,t3,t4,tn1,tn2,tf1,tf2,tf3⟩:=NH (HEl.o.keep ((HB.t2).mono (by have :=HX.q1.size;omega)) (ah _)) hlq
       have hql:(q:Int)<(l.length:Int):=ar;have Ue:tb<w2.heap.size:=by have :=HX.q1.size;omega
       have hst:=aT5 (zQ L f) Hq.o;obtain⟨cur,E6⟩:∃c,(l.take q).all (zQ L f)=c:=⟨_,rfl⟩;rw[E6] at hst⊢;have hnp:(eI L (nm,op,nn,n,fR)).1=0:=HH.t3 l (az Hk.o) _ (az Hq.o);obtain⟨hai,tr,tI⟩:=YV hnp;have agD:=aG (acs hnp);obtain⟨tv,htv⟩:∃v,zQ L f (nm,op,nn,n,fR)=v:=⟨_,rfl⟩;rw[htv] at hst;unfold zQ at htv;simp only at htv hai tr tI;have Hai:=dt hai hnp;clear hai hnp;have JR:=dt hst htv;clear hst E6 htv;go_upto_region 10 with(fail);clear e0 e1 m0 mb t0 t1 t2 t3 t4 c0;obtain⟨tx,htx⟩:∃z,w2.heap.size=z:=⟨_,rfl⟩;rw[htx];have b1:=aj w2 (D #[.string nm,I J op,.string nn,I J n,I J fR] 109);refine forget (λ Z=>Bk Z tx #[.string nm,I J op,.string nn,I J n,I J fR] 109/\Bk Z hb #[.string hn,I J x,I J y,G AH lh.length ch] 26/\Bk Z fb (fcR f) 31/\Below wA.heap.size wA Z) ⟨au _ _ _ _ htx,HB.q1.below b1,HB.q2.below b1,HB.t2.trans (b1.mono HB.t2.size)⟩ ?_;clear b1 htx HB hz2 Ue;clear w2;rintro w3 ⟨h1,h2,h3,h4⟩;obtain⟨c1',l1⟩:=h1.cl0;obtain⟨c2,l2⟩:=h2.cl0;have hw3:Below w.heap.size w w3:=HX.q1.trans ((HA.t1.trans (h4.mono hzA)).mono HX.q1.size);have HW:=iM h1 h3 h4 hw3;clear h1 h2 h3 h4 hw3;obtain⟨m,hm⟩:∃m,(eI L (nm,op,nn,n,fR)).2.2=m:=⟨_,rfl⟩;rw[hm] at JR agD;clear hm;go_upto_region 11 with(go_at_call 35;refine(HT.o nm op nn n fR _ HW.t3 m agD.o).mono ?_;rintro e w4 ⟨rfl,hb4⟩;have HB4:=aG hb4;clear hb4 c1' l1 c2 l2);refine forget (λ Z=>Bk Z tx #[.string nm,I J op,.string nn,I J n,I J fR] 109/\Bk Z fb (fcR f) 31/\Below wA.heap.size wA Z) ⟨HW.q1.below HB4.o,HW.q2.below HB4.o,HW.q3.trans (HB4.o.mono HW.q3.size)⟩ ?_;clear HB4 HW;rintro w5 ⟨h1,h2,h3⟩;have HY:=fH h1 h2 h3;have hz5:=h3.size;clear h1 h2 h3;obtain⟨aI,haI⟩:∃a,(eI L (nm,op,nn,n,fR)).2.1=a:=⟨_,rfl⟩;rw[haI] at JR Hai;clear haI;have agF:aI<10:=(ai.1 (rZ Hai.q1).1).1;go_wp2_with fail;go_loopw [13,14] (λ b i wr=>∃(a:Nat),a<=10/\i=I J a/\b=.bool (vQ aI a tv)/\Below w5.heap.size w5 wr) (λ _ i _=>10 - (intOf i).toNat)
       case atStart=>exact⟨0,ar,rfl,by rw[YW],aA _ _⟩
       case round=>
        obtain⟨a,ha,rfl,rfl,YX⟩:=hrel;generalize wr=w6 at *;by_cases hla:a<10
        · obtain⟨b9,o9,z,e,kY,Hz,cz⟩:=OS (HE.o.keep ((HA.t1.trans ((HY.t2.trans (YX.mono hz5)).mono hzA))) (by have :=YX.size;omega)) (show a<gu.length from hla)
          cases e
          have xY:(a:Int)<10:=ar;have h1:=HY.q1.below YX;obtain⟨c1',l1⟩:=h1.cl0;have h2:=HY.q2.below YX;obtain⟨v,hv⟩:∃v,eO f a=v:=⟨_,rfl⟩;have cF:w6.cell? ⟨fb,a,U⟩=O (I J v):=by rw[h2.cell,acr (by rw[HH.q3];exact hla),hv]
          have lF:=h2.lt;have HB:=aG YX;have hbl:kb<w6.heap.size:=by have :=YX.size;omega
          have c0':w6.cell? ⟨kb,a,U⟩=O (.string z):=by simpa using cz
          clear YX h1 h2 cz kY;by_cases he:z=nm
          · subst he
            obtain rfl:aI=a:=QT (rZ Hai.q1).1 Hz.o;have Hr:=aG (show opB op v m=tv by rw[<-JR.t1,hv]);clear hv;go_upto_region 15 with fail;refine bJ _ aV aV ?_;repeat(go_big_quiet_step (fail))
            refine wpQuiet_nil (λ u=>?_);go_upto_region 17 with fail;have hop:op=1\/op=2\/op=3\/op=4\/op=5\/op=6:=ar;clear tr tI c0' hbl cF lF;rcases hop with rfl|rfl|rfl|rfl|rfl|rfl
            · have yG:decide (v=m)=tv:=Hr.o
              clear Hr;cases tv
              · have h0:¬(v=m):=of_decide_eq_false yG
                have g0:(v==m)=false:=by simpa using h0
                clear yG h0;go_wp2_with fail;go_roundw
                case rel=>exact⟨aI+1,ar,gC,by rw[kj],HB.o.trans ((aT w6 u).mono HB.o.size)⟩
                case measure=>simp[intOf];omega
              · have h0:(v=m):=of_decide_eq_true yG
                have g0:(v==m)=true:=by simpa using h0
                clear yG h0;go_wp2_with fail;go_roundw
                case rel=>exact⟨aI+1,ar,gC,by rw[kj],HB.o.trans ((aT w6 u).mono HB.o.size)⟩
                case measure=>simp[intOf];omega
            · have yG:decide (v≠m)=tv:=Hr.o
              clear Hr;cases tv
              · have h0:¬(v≠m):=of_decide_eq_false yG
                have g0:(v==m)=true:=by simpa using h0
                have g1:(v !=m)=false:=by simpa using h0
                clear yG h0;go_wp2_with fail;go_roundw
                case rel=>exact⟨aI+1,ar,gC,by rw[kj],HB.o.trans ((aT w6 u).mono HB.o.size)⟩
                case measure=>simp[intOf];omega
              · have h0:(v≠m):=of_decide_eq_true yG
                have g0:(v==m)=false:=by simpa using h0
                have g1:(v !=m)=true:=by simpa using h0
                clear yG h0;go_wp2_with fail;go_roundw
                case rel=>exact⟨aI+1,ar,gC,by rw[kj],HB.o.trans ((aT w6 u).mono HB.o.size)⟩
                case measure=>simp[intOf];omega
            · have yG:decide (v<m)=tv:=Hr.o
              clear Hr;cases tv
              · have h0:¬(v<m):=of_decide_eq_false yG
                have g0:¬v<m:=h0;clear yG h0;go_wp2_with fail;go_roundw
                case rel=>exact⟨aI+1,ar,gC,by rw[kj],HB.o.trans ((aT w6 u).mono HB.o.size)⟩
                case measure=>simp[intOf];omega
              · have h0:(v<m):=of_decide_eq_true yG
                have g0:v<m:=h0;clear yG h0;go_wp2_with fail;go_roundw
                case rel=>exact⟨aI+1,ar,gC,by rw[kj],HB.o.trans ((aT w6 u).mono HB.o.size)⟩
                case measure=>simp[intOf];omega
            · have yG:decide (v<=m)=tv:=Hr.o
              clear Hr;cases tv
              · have h0:¬(v<=m):=of_decide_eq_false yG
                have g0:¬v<=m:=h0;clear yG h0;go_wp2_with fail;go_roundw
                case rel=>exact⟨aI+1,ar,gC,by rw[kj],HB.o.trans ((aT w6 u).mono HB.o.size)⟩
                case measure=>simp[intOf];omega
              · have h0:(v<=m):=of_decide_eq_true yG
                have g0:v<=m:=h0;clear yG h0;go_wp2_with fail;go_roundw
                case rel=>exact⟨aI+1,ar,gC,by rw[kj],HB.o.trans ((aT w6 u).mono HB.o.size)⟩
                case measure=>simp[intOf];omega
            · have yG:decide (m<v)=tv:=Hr.o
              clear Hr;cases tv
              · have h0:¬(m<v):=of_decide_eq_false yG
                have g0:¬m<v:=h0;clear yG h0;go_wp2_with fail;go_roundw
                case rel=>exact⟨aI+1,ar,gC,by rw[kj],HB.o.trans ((aT w6 u).mono HB.o.size)⟩
                case measure=>simp[intOf];omega
              · have h0:(m<v):=of_decide_eq_true yG
                have g0:m<v:=h0;clear yG h0;go_wp2_with fail;go_roundw
                case rel=>exact⟨aI+1,ar,gC,by rw[kj],HB.o.trans ((aT w6 u).mono HB.o.size)⟩
                case measure=>simp[intOf];omega
            · have yG:decide (m<=v)=tv:=Hr.o
              clear Hr;cases tv
              · have h0:¬(m<=v):=of_decide_eq_false yG
                have g0:¬m<=v:=h0;clear yG h0;go_wp2_with fail;go_roundw
                case rel=>exact⟨aI+1,ar,gC,by rw[kj],HB.o.trans ((aT w6 u).mono HB.o.size)⟩
                case measure=>simp[intOf];omega
              · have h0:(m<=v):=of_decide_eq_true yG
                have g0:m<=v:=h0;clear yG h0;go_wp2_with fail;go_roundw
                case rel=>exact⟨aI+1,ar,gC,by rw[kj],HB.o.trans ((aT w6 u).mono HB.o.size)⟩
                case measure=>simp[intOf];omega
          · have N3:(z.toList==nm.toList)=false:=uE he
            have agG:aI≠a:=λ e=>he (by subst e;have :=(rZ Hai.q1).1;rw[Hz.o] at this;exact aO this)
            have HS:=aG (VJ agG tv);clear agG hv;go_upto_region 15 with fail;refine bJ _ aV aV ?_;repeat(go_big_quiet_step (fail))
            refine wpQuiet_nil (λ u=>?_);go_wp2_with fail;go_roundw
            case rel=>exact⟨a+1,ar,gC,by rw[HS.o],HB.o.trans ((aT w6 u).mono HB.o.size)⟩
            case measure=>simp[intOf];omega
        · obtain rfl:a=10:=ar
          rw[VI agF];have HB:=aG YX;clear YX;cases cur
          · go_wp2_with fail
            go_roundw
            case rel=>exact⟨q+1,ar,gC,by rw[JR.q1];rfl,HY.t2.trans (HB.o.mono hz5)⟩
            case measure=>simp[intOf];omega
          · go_wp2_with fail
            go_roundw
            case rel=>exact⟨q+1,ar,gC,by rw[JR.q1];rfl,HY.t2.trans (HB.o.mono hz5)⟩
            case measure=>simp[intOf];omega
     · obtain rfl:q=l.length:=ar
       rw[aX];cases hall:l.all (zQ L f) with
       |true=>
        have HR:=aG (show r=true by rw[<-HH.q2];unfold IA;rw[eD.2 ⟨l,az Hk.o,hall⟩,Bool.true_or])
        clear hall;go_wp2_with fail;go_ret;exact⟨eu HR.o.symm,HX.q1.trans ((HA.t1.trans (HB.t2.mono hzA)).mono HX.q1.size)⟩
       |false=>
        have HR:=aG hall;clear hall;go_wp2_with fail;go_roundw
        case rel=>exact⟨k+1,ar,gC,by rw[HA.q1];exact HR.o,HA.t1.trans (HB.t2.mono hzA)⟩
        case measure=>simp[intOf];omega
  · obtain rfl:k=ws.length:=ar
    rw[aX] at qj;by_cases hnil:ws=[]
    · have HR:=aG (show r=true by rw[<-HH.q2];unfold IA;rw[qj];simp[hnil])
      have hl0:((ws.length:Int)==0)=true:=by simp[hnil]
      have HA:=aG hwr;clear qj hwr hnil;go_wp2_with fail;go_ret;exact⟨eu HR.o.symm,HX.q1.trans (HA.o.mono HX.q1.size)⟩
    · have HR:=aG (show r=false by rw[<-HH.q2];unfold IA;rw[qj];simp[hnil])
      have hl0:((ws.length:Int)==0)=false:=by have :ws.length≠0:=λ h=>hnil (lI.1 h);simpa using(show ¬(ws.length:Int)=0 from ar)
      have HA:=aG hwr;clear qj hwr hnil;go_wp2_with fail;go_ret;exact⟨eu HR.o.symm,HX.q1.trans (HA.o.mono HX.q1.size)⟩
end
section
open Go.RowKit Go.Maps
attribute [local go_sem] aQ aC bW
theorem aer(A:dB)(rs:List Rl)(cap:Nat)(w:agb)(h:ic se w A rs)(hl:rs.length<=9223372036854775807)(hv:jg rs=false):
 Calls prog 13 #[.agg #[G A rs.length cap]] w λ e w'=>aZ w w'/\e=.returned (.tuple #[.agg #[G U 0 0,G U 0 0],I J 1]):=by
 have hval:=λ(X:agb) (hX:aZ w X)=>uT A rs cap rs.length X X.heap.size (h.keep hX hX.size) (ah _) rfl hl;rw[hv] at hval;have HV:=aG hval;clear hval hv h;go_enter func13,ntmps13;go_upto_region 2 with(go_at_call 10;refine(HV.o _ dE).mono ?_;rintro e w2 ⟨rfl,hb⟩;have HB:=aG hb;clear hb);have hw:aZ w w2/\Bk w2 (w.heap.size+1) #[G U 0 0,G U 0 0] 56:=⟨aq dE HB.o,(au _ _ _ _ bY).below HB.o⟩;refine forget (λ X=>aZ w X/\Bk X (w.heap.size+1) #[G U 0 0,G U 0 0] 56) hw ?_;clear hw HB;clear w2;rintro X ⟨hX,hg⟩;obtain⟨cg,lg⟩:=hg.cl0;have fg:=hg.free 0;have fg1:=hg.free 1;have HX:=dt hX hg;clear hX hg;go_wp2_with fail;have hb2:=(HX.t1.aS 0 (G U 0 0)).aS 1 (G U 0 0);have ho:Only (λ g=>g=w.heap.size+1) X ((X.setCell ⟨w.heap.size+1,0,U⟩ (G U 0 0)).setCell ⟨w.heap.size+1,1,U⟩ (G U 0 0)):=((Only.refl (λ g=>g=w.heap.size+1) X).aS (p:=⟨w.heap.size+1,0,U⟩) (.inl rfl) _).aS (p:=⟨w.heap.size+1,1,U⟩) (.inl rfl) _;exact bodyPost_ret (kB rfl rfl (wP hb2)) rfl ⟨HX.q1.trans (ho.aK (λ g hg=>by rw[hg];omega) HX.q1.size),rfl⟩
theorem adn(A:dB)(rs:List Rl)(cap:Nat)(w:agb)(h:ic se w A rs)(hl:rs.length<=9223372036854775807)(hv:jg rs=false):
 Calls prog 19 #[.agg #[G A rs.length cap]] w λ e w'=>aZ w w'/\e=.returned (G U 0 0):=by
 have hval:=λ(X:agb) (hX:aZ w X)=>uT A rs cap rs.length X X.heap.size (h.keep hX hX.size) (ah _) rfl hl;rw[hv] at hval;have HV:=aG hval;clear hval hv h;go_enter func19,ntmps19;go_wp2_with (go_at_call 10;refine(HV.o _ dE).mono ?_;rintro e w2 ⟨rfl,hb⟩;have HB:=aG hb;clear hb);go_ret;exact⟨aq dE HB.o,rfl⟩
theorem ae6{rs rs':List Rl}{f:Fc}(h:wD rs rs' f=false):byV (dR f rs rs.length) (dR f rs' rs'.length)=vG (dR f rs' rs'.length):=by unfold wD at h;simpa using h
theorem ae7{rs:List Rl}{qs:List Fd}(h:U4 rs qs){q:Fd}(hq:q∈qs):
 (q.1=1/\∃n r,n<rs.length/\q.2.1=(n:Nat)/\q.2.2.1= -1/\rs[n]?=O r/\r.2.2.1=[])\/
 (q.1=2/\∃n,n<rs.length/\q.2.1=(n:Nat)/\q.2.2.1= -1/\¬qN rs [n] (wD rs (rs.eraseIdx n)))\/
 (q.1=3/\∃a b aat rb,rs[a]?=O aat/\rs[b]?=O rb/\q.2.1=(a:Nat)/\q.2.2.1=(b:Nat)/\aat.1=1/\rb.1=2/\q.2.2.2.length=10/\ik aP q.2.2.2/\oh aat q.2.2.2=true/\oh rb q.2.2.2=true):=by
 obtain⟨h1,h2⟩:=h;have hm:QD q∈rh rs rs.length++(tD rs rs.length++vP rs rs.length):=by rw[<-h1];exact eQ.2 ⟨q,hq,rfl⟩
 obtain⟨k,a,b,g⟩:=q;rcases bV.1 hm with hm|hm
 · left
   unfold rh at hm;obtain⟨n,hn,e⟩:=eQ.1 hm;obtain⟨Mr,JC⟩:=dY.1 hn;have Mr:=bG.1 Mr;simp only[QD,Prod.mk.injEq] at e;obtain⟨rfl,rfl,rfl⟩:=e;have hr:rs[n]?=O rs[n]:=af Mr;rw[yz hr] at JC;exact⟨rfl,n,_,Mr,rfl,rfl,hr,List.isEmpty_iff.1 JC⟩
 · right
   rcases bV.1 hm with hm|hm
   · left
     unfold tD at hm;obtain⟨n,hn,e⟩:=eQ.1 hm;obtain⟨Mr,JC⟩:=dY.1 hn;have Mr:=bG.1 Mr;simp only[QD,Prod.mk.injEq] at e;obtain⟨rfl,rfl,rfl⟩:=e;refine⟨rfl,n,Mr,rfl,rfl,λ hh=>?_⟩;rw[qO hh,Bool.and_false] at JC;cases JC
   · right
     unfold vP at hm;obtain⟨x,hx,hm⟩:=dP.1 hm;have hx:=bG.1 hx;split at hm
     · cases hm
     · unfold lG at hm
       obtain⟨y,hy,e⟩:=eQ.1 hm;obtain⟨WC,WD⟩:=dY.1 hy;have WC:=bG.1 WC;simp only[QD,Prod.mk.injEq] at e;obtain⟨rfl,rfl,rfl⟩:=e;obtain⟨g1,g2,a',b',e1,e2,hh⟩:=h2 _ hq rfl;have ea:a'=x:=by simp only at e1;omega
       have eb:b'=y:=by simp only at e2;omega
       subst ea eb;obtain⟨aat,hra,ha⟩:=hh a' bY;obtain⟨rb,kS,hb⟩:=hh b' bY;simp only[aD,decide_eq_true_eq] at WD;rw[OE hra,OE kS] at WD;exact⟨rfl,a',b',aat,rb,hra,kS,rfl,rfl,WD.1.1,WD.1.2,g1,g2,ha,hb⟩
end
section
open Go.RowKit
attribute [local go_sem] aQ aC bW
def abx(r:Rl):Bool:=decide (r.2.2.1.length<=30)&&decide (r.2.1.size<=200)
def ado(rs:List Rl)(m:Nat):Bool:=decide (rs.length<=m)&&rs.all abx
theorem aeM{α:Type}{xs:List α}{k:Nat}{x:α}(p:α->Bool)(h:xs[k]?=O x):(xs.take (k+1)).all p=((xs.take k).all p&&p x):=by rw[bu,h,List.all_append];simp
theorem ae9{α:Type}{xs:List α}{k:Nat}{x:α}(p:α->Bool)(h:xs[k]?=O x)(hp:p x=false):xs.all p=false:=by rw[List.all_eq_false];exact⟨x,az h,by simp[hp]⟩
theorem pC{f:Fc}(h:f.length=10):iw f=#[I J (eO f 0),I J (eO f 1),I J (eO f 2),I J (eO f 3),I J (eO f 4),I J (eO f 5),I J (eO f 6),I J (eO f 7),I J (eO f 8),I J (eO f 9)]:=by
 match f,h with
 |[_,_,_,_,_,_,_,_,_,_],_=>rfl
theorem aeN(A:dB)(rs:List Rl)(cap n m:Nat)(w:agb)(B:Nat)(h:cG se w B A rs)(hB:B<=w.heap.size)(hn:rs.length=n)(hm0:m<=1000):
 Calls prog 17 #[.agg #[G A n cap],I J m] w (jL (.bool (ado rs m)) w):=by
 subst hn;obtain⟨r,hr⟩:∃r,ado rs m=r:=⟨_,rfl⟩;rw[hr];have Hr:=aG hr;have HH:=aG h;clear h hr;by_cases hm:rs.length<=m
 · have EY:(rs.length:Int)<=(m:Int):=ar
   go_enter func17,ntmps17;go_wp2_with fail;refine forget (λ W=>aZ w W/\Bk W w.heap.size #[G A rs.length cap] 38) ⟨?_,?_⟩ ?_
   · exact dE
   · exact Bk.new w _ _
   rintro W ⟨hw,b0⟩;have c0:W.cell? ⟨w.heap.size,0,U⟩=O (G A rs.length cap):=b0.cell 0;have l0:=b0.lt;have hE:=HH.o.keep (hw.mono hB) (ah _);have hBW:B<=W.heap.size:=bm hB hw.size;have HW:=aG hw;clear hw b0 HH;go_loopw [5] (λ i wr=>∃(k q:Nat),k<=rs.length/\i=I J k/\(rs.take k).all abx=true/\wr=W.drewN q) (λ i _=>rs.length - (intOf i).toNat)
   case atStart=>exact⟨0,0,ar,rfl,rfl,rfl⟩
   case round=>
    obtain⟨k,q,hk,rfl,hall,rfl⟩:=hrel;have Xy:=aG hall;clear hall;by_cases hlt:k<rs.length
    · obtain⟨b,off,kd,nm,AZ,zs,zc,num,rn,rd,sn,sd,rfl,hb,Hk,d0,d1,d2,d3,d4,d5,d6,d7,f1,f2,f3,hZ,_,_⟩:=kA hE hlt
      have bw:b<W.heap.size:=ar;have kq:(k:Int)<(rs.length:Int):=ar;have Hs:=aG (aeM abx Hk.o)
      have mP:Hid (abx (kd,nm,zs,num,(rn,rd),(sn,sd))=false->r=false):=aG λ h=>by rw[<-Hr.o];unfold ado;rw[ae9 abx Hk.o h,Bool.and_false]
      have S5:Hid (abx (kd,nm,zs,num,(rn,rd),(sn,sd))=true->(rs.take (k+1)).all abx=true):=aG λ h=>by rw[Hs.o,Xy.o,h];rfl
      clear hE hZ f1 f2 f3;by_cases hz:zs.length<=30
      · have hz':(zs.length:Int)<=30:=ar
        have hz2:decide ((30:Int)<(zs.length:Int))=false:=decide_eq_false ar;by_cases hq:nm.size<=200
        · have hq':(nm.size:Int)<=200:=ar
          have Ti:decide ((200:Int)<(nm.size:Int))=false:=decide_eq_false ar;go_wp2_with fail;go_roundw
          case rel=>exact⟨k+1,q,ar,gC,S5.o (by simp[abx,hz,hq]),rfl⟩
          case measure=>simp[intOf];omega
        · have hq':(200:Int)<(nm.size:Int):=ar
          have Ti:decide ((200:Int)<(nm.size:Int))=true:=decide_eq_true ar;obtain rfl:=mP.o (by simp[abx];omega);go_wp2_with fail;go_ret;exact⟨rfl,below_drewN HW.o _⟩
      · have hz':(30:Int)<(zs.length:Int):=ar
        have hz2:decide ((30:Int)<(zs.length:Int))=true:=decide_eq_true ar;obtain rfl:=mP.o (by simp[abx];omega);go_wp2_with fail;go_ret;exact⟨rfl,below_drewN HW.o _⟩
    · obtain rfl:k=rs.length:=ar
      have hr2:r=true:=by rw[<-Hr.o];unfold ado;have :=Xy.o;rw[aX] at this;rw[this,decide_eq_true hm];rfl
      subst hr2;go_wp2_with fail;go_ret;exact⟨rfl,below_drewN HW.o _⟩
 · have EY:(m:Int)<(rs.length:Int):=ar
   have hr2:r=false:=by rw[<-Hr.o];unfold ado;rw[decide_eq_false hm];rfl
   subst hr2;go_enter func17,ntmps17;go_wp2_with fail;go_ret;exact⟨rfl,aj _ _⟩
end
section
open Go.RowKit Go.Maps
attribute [local go_sem] aQ aC bW
def yH(f:Fc):Bool:=(List.range 10).all λ a=>r8 (atR aP a) (eO f a)
theorem Nf{f:Fc}{k:Nat}(h:∀a,a<k->r8 (atR aP a) (eO f a)=true)(hk:r8 (atR aP k) (eO f k)=true):∀a,a<k+1->r8 (atR aP a) (eO f a)=true:=λ a ha=>by
 by_cases e:a=k
 · rw[e];exact hk
 · exact h a ar
theorem Fb(f:Fc)(w:agb)(hf:f.length=10):Calls prog 8 #[.agg (iw f)] w (jL (.bool (yH f)) w):=by
 obtain⟨r,hr⟩:∃r,yH f=r:=⟨_,rfl⟩;have HR:=aG hr;rw[hr];clear hr;go_enter func8,ntmps8
 go_upto_region 2 with(first
  |(go_at_call 23;refine(nD _).mono ?_;rintro e w1 ⟨rfl,hb⟩;have HL:=aG hb;clear hb)
  |(refine fD (o:=⟨U,.store 90 _ _,_,_,_,_⟩) rfl _ _ _ rfl (jY aP) rfl rfl my rfl (ko aP) ?_;go_simp))
 obtain⟨lb,oy⟩:∃x,w1.heap.size=x:=⟨_,rfl⟩;rw[oy]
 have hY:Below w.heap.size w (w1.alloc (D (jY aP) 90))/\Bk (w1.alloc (D (jY aP) 90)) w.heap.size (iw f) 31/\Bk (w1.alloc (D (jY aP) 90)) lb (jY aP) 90:=
  ⟨ay (aq dE HL.o) _,((Bk.new w _ _).below HL.o).alloc _,au _ _ _ _ oy⟩
 refine forget (λ X=>Below w.heap.size w X/\Bk X w.heap.size (iw f) 31/\Bk X lb (jY aP) 90) hY ?_;clear hY HL oy;clear w1;obtain⟨fb,qI⟩:∃x,w.heap.size=x:=⟨_,rfl⟩;rw[qI];rintro X ⟨hX,hk,hl⟩;rw[<-qI] at hX;have l1:=hk.lt;have l2:=hl.lt;have HX:=fH hX hk hl;have HFB:=aG qI;clear hX hk hl qI;go_wp2_with fail;go_loopw [4] (λ i wr=>∃(k:Nat),k<=10/\i=I J k/\(∀a,a<k->r8 (atR aP a) (eO f a)=true)/\Below X.heap.size X wr) (λ i _=>10 - (intOf i).toNat)
 case atStart=>exact⟨0,ar,rfl,(λ a ha=>absurd ha ar),aA _ _⟩
 case round=>
  obtain⟨k,hk,rfl,hall,bI⟩:=hrel;generalize wr=wB at *;have HA:=dt hall bI;by_cases hlt:k<10
  · have kq:(k:Int)<10:=ar
    have bf:=HX.q2.below bI;have bl:=HX.t2.below bI;have l1:=bf.lt;have l2:=bl.lt;have c1:wB.cell? ⟨fb,k,U⟩=O (I J (eO f k)):=by rw[bf.cell];exact kQ ar
    have c2:wB.cell? ⟨lb,k*2,U⟩=O (I J (atR aP k).1):=by rw[bl.cell];exact(iC hlt).1
    have c3:wB.cell? ⟨lb,k*2+1,U⟩=O (I J (atR aP k).2):=by rw[bl.cell];exact(iC hlt).2
    obtain⟨x,hx⟩:∃x,eO f k=x:=⟨_,rfl⟩;obtain⟨lo,nA⟩:∃x,(atR aP k).1=x:=⟨_,rfl⟩;obtain⟨hi,zl⟩:∃x,(atR aP k).2=x:=⟨_,rfl⟩;have lY:r8 (atR aP k) (eO f k)=(decide (lo<=x)&&decide (x<=hi)):=by unfold r8;rw[hx,nA,zl]
    have HI:=aG lY;rw[hx] at c1;rw[nA] at c2;rw[zl] at c3
    have mP:Hid ((decide (lo<=x)&&decide (x<=hi))=false->r=false):=aG λ h=>by rw[<-HR.o];unfold yH;rw[List.all_eq_false];exact⟨k,bG.2 hlt,by rw[HI.o,h];simp⟩
    clear hx nA zl lY hall bI bf bl;by_cases p1:lo<=x
    · have n1:¬x<lo:=ar
      have d1:decide (x<lo)=false:=decide_eq_false n1;by_cases p2:x<=hi
      · as_aux_lemma=>
        have n2:¬hi<x:=ar;have d2:decide (hi<x)=false:=decide_eq_false n2;have HP:=dt p1 p2;clear mP p1 p2;go_upto_region 5 with fail;refine bJ wB aV aV ?_;repeat(go_big_quiet_step (fail))
        refine wpQuiet_nil (λ v=>?_);go_wp2_with fail;go_roundw
        case rel=>exact⟨k+1,ar,gC,Nf HA.q1 (by rw[HI.o,decide_eq_true HP.q1,decide_eq_true HP.t1];rfl),aq HA.t1 (aT wB v)⟩
        case measure=>simp[intOf];omega
      · as_aux_lemma=>
        obtain rfl:=mP.o (by rw[decide_eq_false p2,Bool.and_false]);have n2:hi<x:=ar;have d2:decide (hi<x)=true:=decide_eq_true n2;clear mP p1 p2;go_upto_region 5 with fail;refine bJ wB aV aV ?_;repeat(go_big_quiet_step (fail))
        refine wpQuiet_nil (λ v=>?_);go_wp2_with fail;go_ret;exact⟨rfl,aq (aq HX.q1 HA.t1) (aT wB v)⟩
    · as_aux_lemma=>
      obtain rfl:=mP.o (by rw[decide_eq_false p1,Bool.false_and]);have n1:x<lo:=ar;have d1:decide (x<lo)=true:=decide_eq_true n1;clear mP p1;go_upto_region 5 with fail;refine bJ wB aV aV ?_;repeat(go_big_quiet_step (fail))
      refine wpQuiet_nil (λ v=>?_);go_wp2_with fail;go_ret;exact⟨rfl,aq (aq HX.q1 HA.t1) (aT wB v)⟩
  · as_aux_lemma=>
    obtain rfl:k=10:=ar;have hrt:r=true:=by rw[<-HR.o];unfold yH;rw[cY];exact λ a ha=>HA.q1 a (bG.1 ha)
    subst hrt;clear hall bI;go_wp2_with fail;go_ret;exact⟨rfl,aq HX.q1 HA.t1⟩
end
section
open Go.RowKit Go.Maps
abbrev zfC:Array R:=#[I J 0,I J 0,I J 0,I J 0,I J 0,I J 0,I J 0,I J 0,I J 0,I J 0]
theorem OU{rs:List Rl}{f:Fc}(hv:jg rs=true)(hr:∀r∈rs,Hu r):(iK rs f).1.toArray=vG (dR f rs rs.length):=by have hg:=(sV hv).1;rw[wK hr ar]
theorem acx{f:Fc}(qd:∀x∈f,fits x)(a:Nat):fits (eO f a):=by
 unfold eO;rw[av];rcases eC a f.length with h|h
 · rw[af h]
   exact qd _ (cD h)
 · rw[cX h]
   unfold fits;decide
theorem YY{A:dB}{rs:List Rl}{cap:Nat}{X:agb}(h:ic se X A rs)(hv:jg rs=true)(ht:nu X)(iF:il (cA (bc rs) aP) 10<=1099511627776):
 Calls prog 13 #[.agg #[G A rs.length cap]] X λ e X'=>aZ X X'/\∃A1 n1 c1 A2 n2 c2 er,e=.returned (.tuple #[.agg #[G A1 n1 c1,G A2 n2 c2],I J er])/\
  (er=3\/(er=0/\∃(T:List Nd) (Lv:List Dk),n1=T.length/\n2=Lv.length/\ic vH X' A1 (T.map pA)/\ic Hm X' A2 Lv/\mU (bc rs) aP (iK rs) T Lv)):=by
 have hl:=(sV hv).1;refine(Gj A rs cap rs.length X h rfl ar ht iF).mono ?_;rintro e X' ⟨hb,h2⟩;rw[if_pos hv] at h2;rcases h2 with⟨_,rfl⟩|⟨T,Lv,A1,c1,A2,c2,rfl,k1,k2,k3,k4,k5⟩
 · exact⟨hb,U,0,0,U,0,0,3,rfl,.inl rfl⟩
 · exact⟨hb,A1,_,c1,A2,_,c2,0,rfl,.inr ⟨rfl,T,Lv,rfl,rfl,k1,k2,k5⟩⟩
theorem VK{A1 A2:dB}{c1 c2:Nat}{T:List Nd}{Lv:List Dk}{rs:List Rl}{X:agb}(f:Fc)(F C:Array R)(hF:iw f=F)(h1:ic vH X A1 (T.map pA))(h2:ic Hm X A2 Lv)(hT:mU (bc rs) aP (iK rs) T Lv)(hv:jg rs=true)(hr:∀r∈rs,Hu r)(hC:vG (dR f rs rs.length)=C)(ht:nu X)(hf:f.length=10)(qd:∀x∈f,fits x)(hw:ik aP f):
 Calls prog 15 #[.agg #[G A1 T.length c1,G A2 Lv.length c2],.agg F] X λ e X'=>e=.returned (.agg C)/\aZ X X':=by
 have hz:=(nE hv).2.2;have :=Em A1 A2 c1 c2 T Lv f X hT h1 h2 ht ar hf (acx qd) hw;rwa [OU hv hr,hC,hF] at this
theorem VL(AZ:dB)(zs:List Zn)(zc:Nat)(f:Fc)(F:Array R)(hF:iw f=F)(r:Bool)(hf:f.length=10)(hr:(zs.any λ z=>rC z f)=r)(hl:zs.length<=9223372036854775807){X:agb}(h:ic nM X AZ zs){kd num rn rd sn sd:Int}{nm:BA0}:
 Calls prog 11 #[.agg #[I J kd,.string nm,G AZ zs.length zc,I J num,I J rn,I J rd,I J sn,I J sd],.agg F] X λ e X'=>e=.returned (.bool r)/\aZ X X':=by
 have :=FZ kd nm AZ zs zc zs.length num rn rd sn sd f X X.heap.size h (ah _) rfl hl hf;rwa [hr,hF] at this
theorem Ng(f:Fc)(F:Array R)(hF:iw f=F)(hf:f.length=10)(r:Bool)(hr:yH f=r):∀X,Calls prog 8 #[.agg F] X (jL (.bool r) X):=λ X=>by have :=Fb f X hf;rwa [hr,hF] at this
theorem Y5(s:JS)(C:Array R)(hC:vG s=C)(w:agb):(binOp .eql 63 (.agg C) (.agg C)).run prog w=.ok (.bool true) w:=by subst hC;obtain⟨b,h2,_,h3⟩:=UH s s;rw[h2 w,h3.2 rfl]
end
section
open Go.RowKit
def xF:Fc:=[0,30,0,0,0,0,0,0,2,0]
def yF:Fc:=[0,15,0,0,0,0,0,0,2,0]
theorem VM:ik aP xF:=by unfold ik;decide
theorem VN:ik aP yF:=by unfold ik;decide
theorem acy:∀a,fits (eO xF a):=λ a=>by
 by_cases h:a<10
 · rcases(ar:a=0\/a=1\/a=2\/a=3\/a=4\/a=5\/a=6\/a=7\/a=8\/a=9) with rfl|rfl|rfl|rfl|rfl|rfl|rfl|rfl|rfl|rfl<;>(unfold fits;decide)
 · have e:eO xF a=0:=by unfold eO;rw[av,cX (by show 10<=a;omega)];rfl
   rw[e];unfold fits;decide
theorem acz:∀a,fits (eO yF a):=λ a=>by
 by_cases h:a<10
 · rcases(ar:a=0\/a=1\/a=2\/a=3\/a=4\/a=5\/a=6\/a=7\/a=8\/a=9) with rfl|rfl|rfl|rfl|rfl|rfl|rfl|rfl|rfl|rfl<;>(unfold fits;decide)
 · have e:eO yF a=0:=by unfold eO;rw[av,cX (by show 10<=a;omega)];rfl
   rw[e];unfold fits;decide
theorem Nh:oz.length=4:=by decide+kernel
theorem ak4:IA LX xF Xc.2.2.1=true:=by decide+kernel
theorem ak5:∀l∈Xc.2.2.1,∀t∈l,(eI LX t).1=0:=by decide+kernel
theorem agH:(bc oz).length<=100000:=by decide+kernel
theorem ak6:IK (dR xF oz oz.length)=true:=by decide+kernel
theorem ak7:IK (dR yF oz oz.length)=false:=by decide+kernel
theorem QV(s:JS)(al:Bool)(h:IK s=al):∃(tg si:Bool) (lim price fn fd tn td cn cd sn sd rn rd y:Int),vG s=#[.bool al,.bool tg,.bool si,I J lim,I J price,I J fn,I J fd,I J tn,I J td,I J cn,I J cd,I J sn,I J sd,I J rn,I J rd,I J y]:=by subst h;exact⟨_,_,_,_,_,_,_,_,_,_,_,_,_,_,_,rfl⟩
theorem ak8:∀r∈oz,Hu r:=by unfold Hu fits;decide+kernel
theorem Ey(f:Fc)(al:Bool)(h:IK (dR f oz oz.length)=al):∃(tg si:Bool) (lim price fn fd tn td cn cd sn sd rn rd y:Int),(iK oz f).1.toArray=#[.bool al,.bool tg,.bool si,I J lim,I J price,I J fn,I J fd,I J tn,I J td,I J cn,I J cd,I J sn,I J sd,I J rn,I J rd,I J y]:=by rw[OU Iu ak8];exact QV _ al h
open Classical in
theorem VO{rs rs':List Rl}{f:Fc}(h:IK (dR f rs rs.length)≠IK (dR f rs' rs'.length)):wD rs rs' f=true:=by
 unfold wD;rw[decide_eq_false]
 · rfl
 · intro e
   have e2:(byV (dR f rs rs.length) (dR f rs' rs'.length))[0]?=(vG (dR f rs' rs'.length))[0]?:=by rw[e]
   have e3:O (Value.bool (IK (dR f rs rs.length)))=O (Value.bool (IK (dR f rs' rs'.length))):=e2;simp only[cQ,Value.bool.injEq] at e3;exact h e3
theorem Cf{rs:List Rl}{ns:List Nat}{g:Fc}(h:(ns.all λ n=>match rs[n]? with |none=>false|some r=>oh r g)=true):Ef rs ns g:=by
 intro n hn;have :=cY.1 h n hn;split at this
 · cases this
 · rename_i r hr
   exact⟨r,hr,this⟩
theorem ak9:qN oz [0] (wD oz (oz.eraseIdx 0)):=⟨xF,rfl,VM,Cf (by decide+kernel),VO (by decide+kernel)⟩
theorem Ux:qN oz [1] (wD oz (oz.eraseIdx 1)):=⟨yF,rfl,VN,Cf (by decide+kernel),VO (by decide+kernel)⟩
theorem Uy:qN oz [2] (wD oz (oz.eraseIdx 2)):=⟨xF,rfl,VM,Cf (by decide+kernel),VO (by decide+kernel)⟩
theorem acA:qN oz [0,1] λ _=>true:=⟨yF,rfl,VN,Cf (by decide+kernel),rfl⟩
theorem acB:rh oz 4=[(1,3,-1)]:=by decide+kernel
theorem agI:tD oz 4=[]:=by
 have e3:(sX oz 3).isEmpty=true:=by decide+kernel
 rw[lW,lW,lW,lW,qO ak9,qO Ux,qO Uy,e3];simp[tD]
open Classical in
theorem agJ:vP oz 4=[(3,0,1)]:=by
 have e0:(sX oz 0).isEmpty=false:=by decide+kernel
 have e3:(sX oz 3).isEmpty=true:=by decide+kernel
 have k0:qm oz 0=1:=by decide+kernel
 have k1:qm oz 1=2:=by decide+kernel
 have k2:qm oz 2=3:=by decide+kernel
 have k3:qm oz 3=1:=by decide+kernel
 have hm:rX oz 0 1=true:=by unfold rX;exact decide_eq_true acA
 have c0:lG oz 0 4=[(3,0,1)]:=by rw[fW,fW,fW,fW,k0,k1,k2,k3,hm];simp[lG]
 have c1:lG oz 1 4=[]:=by rw[fW,fW,fW,fW,k0,k1,k2,k3];simp[lG]
 have c2:lG oz 2 4=[]:=by rw[fW,fW,fW,fW,k0,k1,k2,k3];simp[lG]
 unfold vP;have er:List.range 4=[0,1,2,3]:=rfl;rw[er,Nh];simp only[gZ,List.flatMap_nil,e0,e3,c0,c1,c2];simp
theorem Y6{qs:List Fd}(h:U4 oz qs):∃g1 g2:Fc,qs=[(1,3,-1,g1),(3,0,1,g2)]:=by
 have h1:=h.1;rw[Nh,acB,agI,agJ] at h1;match qs,h1 with
 |[(a,b,c,g1),(d,e,f,g2)],h1=>
  simp only[aH,aU,QD,eV,eU,iq,Prod.mk.injEq,and_true] at h1;obtain⟨⟨rfl,rfl,rfl⟩,rfl,rfl,rfl⟩:=h1;exact⟨g1,g2,rfl⟩
 |[],h1=>simp at h1
 |[_],h1=>simp at h1
 |_::_::_::_,h1=>simp at h1
def leX(H:Hx):Le:=(⟨#[108,111,119]⟩,0,[(⟨#[98]⟩,(O ⟨H.gr,0,U⟩,1,H.cr),69)],[(⟨#[115]⟩,(18,20,28,24),2,116)],(O ⟨H.g4,0,U⟩,1,H.c4),(U,0,0),(O ⟨H.g6,0,U⟩,1,H.c6),19)
theorem Gw(H:Hx):(kX [leX H],kI [leX H])=LX:=rfl
theorem wU{α:Type}{T:Ty α}{X:agb}{g:Nat}{cs:List R}{x:α}(h:gp X g cs.toArray)(hr:T.rd X X.heap.size cs x):ic T X (O ⟨g,0,U⟩) [x]:=by
 intro i hi;obtain rfl:i=0:=by simp only[bD,dG] at hi;omega
 exact⟨g,0,cs,rfl,h.1,hr,λ j u hu=>by have :=h.2 j u (by simpa using hu);simpa using this⟩
theorem agK: -9223372036854775808<=(69:Int)/\(69:Int)<=9223372036854775807:=cj
theorem agL: -9223372036854775808<=(0:Int)/\(0:Int)<=9223372036854775807:=cj
theorem agM: -9223372036854775808<=(19:Int)/\(19:Int)<=9223372036854775807:=cj
theorem ala:(⟨#[98]⟩:BA0).size<=1125899906842624:=cj
theorem alb:(⟨#[108,111,119]⟩:BA0).size<=1125899906842624:=cj
theorem aag:1<=1125899906842624:=cj
theorem NR.reads{base:Nat}{X:agb}{v:R}(h:NR base X v):∃H:Hx,v=.agg (yM H)/\fS H X/\ic Ji X (O ⟨H.gl,0,U⟩) [leX H]:=by
 obtain⟨vl,vr,v2,v3,v4,v6,rfl,o1,o2,o3,o4,o5,o6⟩:=h;have Ov:=fM o5;have hc2:=fM o3;have hc3:=fM o4;obtain⟨gl,cl,rfl,_,h1⟩:=qP (n:=0) o1 cj;obtain⟨gr,cr,rfl,_,h2⟩:=qP (n:=0) o2 cj;obtain⟨g2,c2,rfl,_,h3⟩:=qP (n:=0) o3 cj;obtain⟨g3,c3,rfl,_,h4⟩:=qP (n:=0) o4 cj;obtain⟨g4,c4,rfl,_,h5⟩:=qP (n:=0) o5 cj;obtain⟨g6,c6,rfl,_,h6⟩:=qP (n:=0) o6 cj;obtain⟨_,_,e,alc,ald⟩:=Ov;cases e
 obtain⟨_,_,e,ale,alf⟩:=hc2;cases e
 obtain⟨_,_,e,alg,alh⟩:=hc3;cases e
 have hb:ic Ze X (O ⟨g2,0,U⟩) [(⟨#[98]⟩,(O ⟨gr,0,U⟩,1,cr),69)]:=
  wU h3 ⟨[_],_,rfl,⟨rfl,ala⟩,[_],[_],rfl,rfl,⟨rfl,agK⟩⟩
 have ha:ic Zf X (O ⟨g3,0,U⟩) [(⟨#[115]⟩,(18,20,28,24),2,116)]:=
  wU (cs:=(qW 2).toList) h4 ⟨[_],_,rfl,⟨rfl,cj⟩,[_,_,_,_],_,rfl,⟨[_],_,rfl,⟨rfl,cj,cj⟩,[_],_,rfl,⟨rfl,cj,cj⟩,[_],[_],rfl,⟨rfl,cj,cj⟩,⟨rfl,cj,cj⟩⟩,[_],[_],rfl,⟨rfl,cj,cj⟩,⟨rfl,cj,cj⟩⟩
 refine⟨⟨gl,g2,gr,g3,g4,g6,cl,c2,cr,c3,c4,c6⟩,rfl,⟨h1,h3,h2,h4,h5,h6,alc,ald⟩,wU h1 ?_⟩;exact⟨[_],_,rfl,⟨rfl,alb⟩,[_],_,rfl,⟨rfl,agL⟩,[_],_,rfl,⟨⟨_,_,rfl,ale,alf,hb⟩,aag⟩,[_],_,rfl,⟨⟨_,_,rfl,alg,alh,ha⟩,aag⟩,[_],_,rfl,rfl,[_],_,rfl,rfl,[_],[_],rfl,rfl,⟨rfl,agM⟩⟩
end
end Go.Proofs.YtbcpcneadjcmlaaGreatDoor
