import Derived.Test.YtbcpcneadjcmlaaGreatDoorK28
namespace Go.Proofs.YtbcpcneadjcmlaaGreatDoor
open Go.Proofs.Tryz
set_option maxRecDepth 100000
set_option maxHeartbeats 16000000
set_option linter.unusedVariables false
set_option linter.unusedSimpArgs false
open Value renaming int→I,slice→G
open IntKind renaming i64→J
open Obj renaming cells→D
open Option renaming some→O,none→U
open Go renaming Value→R,World→agb
section
open Go.RowKit Go.ChangeShapes Go.WideShapes Go.Deep
theorem LB{P:Program}{t:TypeId}(ht:P.underlying t=O .string)(hc:P.cellsOf t=1):ig P t mY:=
 ⟨hc,λ _ _ _ _ _ _ _ _ _ h hw=>by obtain⟨s,rfl,rfl,hs⟩:=DataW.trod_string ht h;refine⟨s,rfl,?_⟩;have h9:s.data.toList.length<=reachBytes:=hw _ (by simp[DataW.weights]);have e:s.size=s.data.toList.length:=bY;unfold reachBytes at h9;omega⟩
theorem tZ{H:Type}{P:Program}{e:TypeId}:∀{ds:List (DataW H)}{d:DataW H},d∈ds->∀n∈d.weights P e,n∈DataW.weightsAll P e ds
 |[],_,h,_,_=>by cases h
 |d0::r,d,h,n,hn=>by
  simp only[DataW.weightsAll,bV];rcases aR.1 h with rfl|h
  · exact .inl hn
  · exact .inr (tZ h n hn)
theorem mJ{α:Type}{P:Program}{t e:TypeId}{T:Ty α}(ht:P.underlying t=O (.slice e))(hc:P.cellsOf t=1)(sy:0<T.n)(hT:ig P e T):ig P t (eF T):=
 ⟨hc,λ H enc w spare held base fuel cs x h hw=>by
  rcases open_slice ht h with⟨rfl,_⟩|⟨a,len,cap,m,n,aak,Pl,rfl,_,hl,hm,qf,rfl,hx⟩
  · exact⟨[],U,0,rfl,bY,by simp[maxLen],cG.nil⟩
  · have VZ:len<=m:=by rw[qf];split<;>omega
    have hwi:∀i,i<len->∀n∈(aak i).weights P e,n<=reachBytes:=λ i hi n hn=>by refine hw n ?_;simp only[DataW.weights,ht,aR,bV];exact .inr (.inl (tZ (eQ.2 ⟨i,bG.2 hi,rfl⟩) n hn))
    obtain⟨b,off,spot⟩:=a
    have hall:∀i,i<len->∃y,∃b' off' cs',O (⟨b,off,spot⟩:Addr)=O ⟨b',off',U⟩/\b'<w.heap.size/\T.rd w w.heap.size cs' y/\
     ∀j u,cs'[j]?=O u->w.cell? ⟨b',off'+i*T.n+j,U⟩=O u:=λ i hi=>by
     obtain⟨cs',hcs,GD⟩:=hx i ar;obtain⟨y,hy⟩:=hT.2 H enc w spare held base n cs' _ GD (hwi i hi);obtain⟨_,hlen,hcell⟩:=World.cells?_some hcs;rw[hT.1] at hcs hlen hcell;have hl0:=T.len hy;have c0:=hcell 0 sy;rw[af ar] at c0;obtain⟨a0,ha0⟩:∃a0:Addr,a0=((⟨b,off,spot⟩:Addr).add (i*T.n)):=⟨_,rfl⟩;have hb0:a0.block=b:=by rw[ha0];unfold Addr.add;split<;>rfl
     have ho0:a0.off=off+i*T.n:=by rw[ha0];unfold Addr.add;split<;>simp_all
     rw[<-ha0] at c0 hcell;have hsp:a0.spot=U:=by simpa [Addr.add] using World.cell?_spot c0
     have hlt:=World.block_lt_of_cell? w _ c0
     have ea:∀j,a0.add j=⟨b,off+i*T.n+j,U⟩:=λ j=>by
      obtain⟨b1,o1,s1⟩:=a0;simp only at hb0 ho0 hsp;subst hb0 ho0 hsp;unfold Addr.add;split
      · rename_i hj;subst hj;rfl
      · rfl
     have hb1:b<w.heap.size:=by
      have e0:(a0.add 0).block=b:=by rw[ea]
      rw[<-e0];exact hlt
     have sA:∀j u,cs'[j]?=O u->w.cell? ⟨b,off+i*T.n+j,U⟩=O u:=λ j u hu=>by
      have hj:j<T.n:=by have :=(ai.1 hu).1;omega
      rw[<-ea,hcell j hj,hu]
     by_cases hs:spot=U
     · subst hs
       exact⟨y,b,off,cs',rfl,hb1,hy,sA⟩
     · exfalso
       by_cases Q6:i*T.n=0
       · apply hs
         rw[ha0] at hsp;simpa [Addr.add,Q6] using hsp
       · obtain⟨cs0,aii,ht0⟩:=hx 0 ar
         obtain⟨_,adV,RQ⟩:=World.cells?_some aii;rw[hT.1] at adV RQ;have c00:=RQ 0 sy;rw[af ar] at c00;apply hs
         simpa [Addr.add] using World.cell?_spot c00
    obtain⟨xs,Fh,hxs⟩:=tN len hall;refine⟨xs,O ⟨b,off,spot⟩,cap,by rw[Fh],ar,hm,λ i hi=>?_⟩;obtain⟨b',off',cs',e1,e2,e3,e4⟩:=hxs i hi;exact⟨b',off',cs',e1,e2,e3,e4⟩⟩
theorem vy{α:Type}{P:Program}{t e:TypeId}{T:Ty α}(ht:P.underlying t=O (.slice e))(hc:P.cellsOf t=1)(sy:0<T.n)(hby:0<P.bytesOf e)(hT:ig P e T):ig P t (xL T):=
 ⟨hc,λ H enc w spare held base fuel cs x h hw=>by
  obtain⟨y,hy⟩:=(mJ ht hc sy hT).2 H enc w spare held base fuel cs x h hw;refine⟨y,hy,?_⟩;obtain⟨A,aoR,e9,_⟩:=hy;rcases open_slice ht h with⟨rfl,_⟩|⟨a,len,cap,m,n,aak,Pl,rfl,_,hl,hm,qf,rfl,hx⟩
  · simp only[iq,Value.slice.injEq,and_true] at e9
    omega
  · simp only[iq,Value.slice.injEq,and_true] at e9
    obtain⟨_,e8,_⟩:=e9;subst e8
    have h9:=hw ((y.length+(m - y.length))*P.bytesOf e) (by
     simp only[DataW.weights,ht,aR,bV];left
     simp)
    have h8:y.length+(m - y.length)<=reachBytes:=bm (Nat.le_mul_of_pos_right _ hby) h9;unfold reachBytes at h8;omega⟩
theorem gV{P:Program}{t:TypeId}{fs:Array Field}{α:Type}{T:Ty α}(ht:P.underlying t=O (.struct fs))(hc:P.cellsOf t=T.n)(hf:uN P fs.toList 0 T):ig P t T:=
 ⟨hc,λ H enc w spare held base fuel cs x h hw=>by
  obtain⟨xs,n,_,rfl,hl,Fh,hx⟩:=DataW.trod_struct ht h
  obtain⟨y,hy⟩:=hf.reads (enc:=enc) (w:=w) (spare:=spare) (held:=held) (base:=base) (m:=n) cs (by rw[hl,hc];omega) λ f hf'=>by
   obtain⟨i,hi,rfl⟩:=bo.1 hf';have Jg:i<fs.size:=by simpa using hi
   refine⟨xs[i]'(by rw[Fh];simpa using hi),?_,λ n hn=>hw n ?_⟩
   · rw[hx i _ bY]
     exact af _
   · simp only[DataW.weights,ht]
     exact DataW.weights_mem_each (j:=i) (t:=(fs.toList[i]).type) (d:=(xs[i]'(by rw[Fh];simpa using hi)).1) (by simp[Jg]) (by simp[Fh,Jg]) n hn
  exact⟨y,hy⟩⟩
end
section
open Go.RowKit
attribute [local go_sem] aQ aC bW
theorem sB{P:Program}{t e:TypeId}(ht:P.underlying t=O (.slice e))(hc:P.cellsOf t=1):rv P t Jh:=
 ⟨hc,λ H enc w spare held base fuel cs x h=>by
  rcases Go.Deep.open_slice ht h with⟨rfl,_⟩|⟨a,len,cap,m,n,aak,Pl,rfl,_⟩
  · exact⟨(U,0,0),rfl⟩
  · exact⟨(O a,len,cap),rfl⟩⟩
abbrev tHa:Ty Ha:=fy mY (fy (fy dr dr) (eF Ji))
theorem jZ:ig prog 3 dr:=rv.z (Fg aJ aV)
theorem vY:ig prog 9 mY:=LB bn aV
theorem LD:ig prog 23 (fy dr dr):=gV underlying23 aV (.cons rfl jZ (.one rfl jZ))
theorem Jj:ig prog 46 RJ:=gV underlying46 aV (.cons rfl jZ (.one rfl jZ))
theorem RS:ig prog 169 adW:=gV underlying169 aV (.cons rfl jZ (.cons rfl jZ (.cons rfl jZ (.one rfl jZ))))
theorem WG:ig prog 163 Ze:=gV underlying163 aV (.cons rfl vY (.cons rfl (rv.z <| sB zT aV) (.one rfl jZ)))
theorem WH:ig prog 171 Zf:=gV underlying171 aV (.cons rfl vY (.cons rfl RS (.cons rfl jZ (.one rfl jZ))))
theorem RT:ig prog 80 (xL Ze):=vy underlying80 aV cj (of_decide_eq_true aV) WG
theorem RU:ig prog 81 (xL Zf):=vy underlying81 aV cj (of_decide_eq_true aV) WH
theorem WI:ig prog 85 Ji:=gV underlying85 aV
 (.cons rfl vY (.cons rfl jZ (.cons rfl RT (.cons rfl RU (.cons rfl (rv.z <| sB vp aV) (.cons rfl (rv.z <| sB vp aV) (.cons rfl (rv.z <| sB underlying83 aV) (.one rfl jZ))))))))
theorem RV:ig prog 24 (eF Ji):=mJ underlying24 aV cj WI
theorem WJ:ig prog 26 tHa:=gV underlying26 aV (.cons rfl vY (.cons rfl LD (.one rfl RV)))
theorem WK:ig prog 109 Fs:=gV underlying109 aV (.cons rfl vY (.cons rfl jZ (.cons rfl vY (.cons rfl jZ (.one rfl jZ)))))
theorem RX:ig prog 86 (eF Fs):=mJ ED aV cj WK
theorem Pc:ig prog 50 (eF (eF Fs)):=mJ EE aV cj RX
theorem WL:ig prog 52 Fu:=gV underlying52 aV
 (.cons rfl jZ (.cons rfl vY (.cons rfl Pc (.cons rfl jZ (.cons rfl Jj (.cons rfl Jj (.one rfl jZ)))))))
theorem RY:ig prog 27 (eF Fu):=mJ underlying27 aV cj WL
theorem LF:ig prog 29 (eF Fu):=gV underlying29 aV (.one rfl RY)
section
variable{w:agb}{B:Nat}{A:dB}
end
end
section
open Go.RowKit Go.ChangeShapes Go.WideShapes Go.ChangeAt
theorem Jk{w:agb}{cs:Array R}{y:List It}(h:(eF Fu).rd w w.heap.size cs.toList y):∃A cap,Value.agg cs=.agg #[G A y.length cap]/\y.length<=cap/\cap<=9223372036854775807/\ic Fu w A y:=by obtain⟨A,cap,e,h1,h2,h3⟩:=h;obtain⟨l⟩:=cs;simp only at e;subst e;exact⟨A,cap,rfl,h1,by unfold maxLen at h2;omega,h3⟩
theorem NJ{w:agb}{cs:Array R}{y:Ha}(h:tHa.rd w w.heap.size cs.toList y):∃hn a b A cap,Value.agg cs=.agg #[.string hn,I J a,I J b,G A y.2.2.length cap]/\y.2.2.length<=9223372036854775807/\y.2.2.length<=cap/\cap<=9223372036854775807/\ic Ji w A y.2.2/\hn.size<=1125899906842624:=by obtain⟨hn,⟨a,b⟩,lv⟩:=y;obtain⟨c1,r1,e,⟨rfl,g1⟩,⟨c2,r2,rfl,⟨d1,d2,rfl,⟨rfl,_⟩,⟨rfl,_⟩⟩,⟨A,cap,rfl,h1,h2,h3⟩⟩⟩:=h;obtain⟨l⟩:=cs;simp only at e;subst e;have h1':lv.length<=cap:=h1;unfold maxLen at h2;exact⟨hn,a,b,A,cap,rfl,by show lv.length<=_;omega,h1,ar,h3,g1⟩
end
section
open Go.RowKit
theorem zt{L:Nm}:∀{ws:List (List Ts)},oQ L ws=U->∀l∈ws,kP L l=U
 |[],_,l,hl=>by simp at hl
 |x::r,h,l,hl=>by
  unfold oQ at h;cases hx:kP L x with
  |some e=>rw[hx] at h;cases h
  |none=>
   rw[hx] at h;rcases aR.1 hl with rfl|hl
   · exact hx
   · exact zt h l hl
theorem abe(Z:List Zn)(lim:Zn)(a:Nat):1<=cA Z lim a:=by obtain⟨r,hr⟩:=yi Z lim a (List.range (Z.length+1));unfold cA mA;rw[hr];simp
end
section
open Go.RowKit Go.ChangeAt
attribute [local go_sem] aQ aC bW
theorem Ev{α:Type}{xs:List α}{k:Nat}{x:α}{p:α->Bool}(h:xs[k]?=O x)(hp:p x=false):xs.all p=false:=by
 cases hh:xs.all p with
 |false=>rfl
 |true=>rw[cY] at hh;rw[hh x (az h)] at hp;cases hp
end
section
open Go.RowKit
theorem rj{L:Nm}{l:List It}:∀{n i:Nat}{x:It},dC L l n=[]->i<n->l[i]?=O x->(fN L (ny l i x) x).1=0
 |0,i,x,_,h,_=>ar
 |n+1,i,x,h,hi,hx=>by
  rw[dC] at h;obtain⟨h1,h2⟩:=List.append_eq_nil_iff.1 h;by_cases lY:i<n
  · exact rj h1 lY hx
  · obtain rfl:i=n:=ar
    rw[hx] at h2;simp only at h2;by_cases h0:(fN L (ny l i x) x).1=0
    · exact h0
    · rw[if_neg h0] at h2;cases h2
theorem wT{L:Nm}{l:List It}:∀{n i:Nat}{x:It},n<=l.length->i<n->l[i]?=O x->(dZ L l n)[i]?=O (if(fN L (ny l i x) x).1=0 then vx L x else pE)/\(dZ L l n).length=n
 |0,i,x,_,h,_=>ar
 |n+1,i,x,hn,hi,hx=>by
  have hlen:∀m,m<=l.length->(dZ L l m).length=m:=by
   intro m;induction m with
   |zero=>intro _;rfl
   |succ m ih=>
    intro hm;rw[dZ,af (show m<l.length from ar),ax,ih ar];rfl
  refine⟨?_,hlen _ hn⟩;rw[dZ];by_cases lY:i<n
  · rw[bM (by rw[hlen n ar];exact lY)]
    exact(wT ar lY hx).1
  · obtain rfl:i=n:=ar
    rw[bP (by rw[hlen i ar];exact ah _),hlen i ar,hx];simp
theorem Ew{L:Nm}{tw:Bool}{x:It}(h:(fN L tw x).1=0):oQ L x.2.2.1=U/\(jI L x).length<=200/\lK x=true/\1<=x.1/\x.1<=7/\tw=false:=by
 unfold fN at h;split at h
 · simp at h
 · rename_i h1
   split at h
   · simp at h
   · rename_i h2
     split at h
     · simp at h
     · rename_i h3
       split at h
       · rename_i e he
         exact absurd h (ya he).1
       · rename_i h4
         split at h
         · simp at h
         · rename_i h5
           exact⟨h4,ar,by simpa using h3,ar,ar,by simpa using h1⟩
theorem yD{L:Nm}{l:List It}(h:je L l=[]):l.length<=200/\dC L l l.length=[]:=by
 unfold je at h;obtain⟨h1,h2⟩:=List.append_eq_nil_iff.1 h
 have hl:l.length<=200:=by
  rcases eC 200 l.length with h3|h3
  · rw[af h3] at h2;cases h2
  · exact h3
 rw[Nat.min_eq_left hl] at h1;exact⟨hl,h1⟩
theorem Ex{L:Nm}{l:List It}(h:je L l=[]){i:Nat}{x:It}(hx:l[i]?=O x):(jx L l)[i]?=O (vx L x)/\oQ L x.2.2.1=U/\(jI L x).length<=200/\(fN L (ny l i x) x).1=0:=by
 obtain⟨h1,h2⟩:=yD h
 have hi:i<l.length:=by
  rcases eC i l.length with h3|h3
  · exact h3
  · rw[cX h3] at hx;cases hx
 have h0:=rj h2 hi hx;obtain⟨k1,k2,_⟩:=Ew h0;refine⟨?_,k1,k2,h0⟩;unfold jx;rw[if_pos h,(wT (ah _) hi hx).1,if_pos h0]
theorem zP{L:Nm}{l:List It}(h:je L l=[]):(jx L l).length=l.length:=by
 unfold jx;rw[if_pos h];cases l with
 |nil=>rfl
 |cons x r=>exact(wT (i:=0) (x:=x) (ah _) bY rfl).2
theorem M9{L:Nm}{l:List It}(h:¬je L l=[]):jx L l=[]:=by unfold jx;rw[if_neg h]
theorem Vy{L:Nm}{l:List It}{i:Nat}{r:Rl}(hr:(jx L l)[i]?=O r):∃x,l[i]?=O x/\r=vx L x/\oQ L x.2.2.1=U/\(jI L x).length<=200:=by
 by_cases h:je L l=[]
 · have hi:i<l.length:=by
    rw[<-zP h];exact(ai.1 hr).1
   obtain⟨h1,h2,h3,_⟩:=Ex h (af hi);exact⟨l[i],af hi,aO (hr.symm.trans h1),h2,h3⟩
 · rw[M9 h] at hr
   simp at hr
theorem OO(L:Nm)(t:Ts):(eI L t).2.1<10:=by
 by_cases h:(eI L t).1=0
 · exact(B6 h).1
 · revert h
   unfold eI;split
   · intro _;simp
   · split
     · intro _;simp
     · split
       · intro _;simp
       · split
         · intro _;simp
         · intro h;simp at h
theorem Vz{r x:Rg}{op n:Int}(h:x∈kg r op n):r.1<=x.1/\x.2<=r.2:=by
 unfold kg at h;repeat' split at h
 all_goals simp only[aR,bH,or_false] at h
 all_goals first|(subst h;simp only;omega)|(rcases h with rfl|rfl<;>simp only <;>omega)|exact h.elim
theorem Na{r x:Rg}{op n:Int}(h:x∈sx r op n):r.1<=x.1/\x.2<=r.2/\x.1<=x.2:=by unfold sx at h;rw[dY] at h;have :=Vz h.1;exact⟨this.1,this.2,by simpa using h.2⟩
theorem yE{z:Zn}{a b:Nat}{r:Rg}(ha:a<z.length):atR (z.set a r) b=if b=a then r else atR z b:=by
 unfold atR;rw[av,av,iV];by_cases h:b=a
 · rw[if_pos h.symm,if_pos h,if_pos ha];rfl
 · rw[if_neg (λ e=>h e.symm),if_neg h]
def BR(z:Zn):Prop:=z.length=10/\∀a,a<10->(atR z a).1<=(atR z a).2/\(atR mH a).1<=(atR z a).1/\(atR z a).2<=(atR mH a).2
theorem Iy:BR mH:=⟨rfl,cj⟩
theorem YS{z x:Zn}{a:Nat}{op n:Int}(h:BR z)(ha:a<10)(hx:x∈mf z a op n):BR x:=by
 obtain⟨hl,hz⟩:=h;unfold mf at hx;obtain⟨r,hr,rfl⟩:=eQ.1 hx;obtain⟨h1,h2,h3⟩:=Na hr;refine⟨by rw[mD];exact hl,λ b hb=>?_⟩;rw[yE ar];have :=hz b hb;split
 · rename_i e;subst e;omega
 · exact this
theorem OP{L:Nm}{t:Ts}{out:List Zn}(h:∀z∈out,BR z):∀z∈mI L out t,BR z:=by intro z hz;unfold mI at hz;obtain⟨y,hy,hz⟩:=dP.1 hz;exact YS (h y hy) (OO L t) hz
theorem OQ{L:Nm}:∀(l:List Ts)(out:List Zn),(∀z∈out,BR z)->∀z∈l.foldl (mI L) out,BR z
 |[],out,h=>h
 |t::l,out,h=>OQ l (mI L out t) (OP h)
theorem QR(L:Nm)(l:List Ts):∀z∈gJ L l,BR z:=OQ l [mH] (by intro z hz;simp at hz;subst hz;exact Iy)
theorem QS(L:Nm)(x:It):∀z∈jI L x,BR z:=by
 intro z hz;unfold jI at hz;split at hz
 · simp at hz;subst hz;exact Iy
 · obtain⟨l,_,hz⟩:=dP.1 hz
   exact QR L l z hz
end
section
open Go.RowKit Go.Maps
attribute [local go_sem] aQ aC bW
theorem QU(f:Fc):yH f=true↔ik aP f:=by
 unfold yH ik r8;rw[cY];constructor
 · intro h a ha
   have :=h a (bG.2 ha);simpa using this
 · intro h a ha
   have :=h a (bG.1 ha);simpa using this
end
section
open Go.RowKit Go.Maps
theorem YZ{A:dB}{rs:List Rl}{cap:Nat}{X:agb}(f:Fc)(F C:Array R)(hF:iw f=F)(h:ic se X A rs)(hv:jg rs=true)(hC:vG (dR f rs rs.length)=C)(hf:f.length=10):
 Calls prog 16 #[.agg #[G A rs.length cap],.agg F] X λ e X'=>e=.returned (.agg C)/\aZ X X':=by
 have hl:=(sV hv).1;have :=pO A rs cap rs.length f X X.heap.size h (ah _) rfl ar hf;rwa [hC,hF] at this
theorem Y4{A A1 A2:dB}{c c1 c2:Nat}{rs:List Rl}{T:List Nd}{Lv:List Dk}{X:agb}(h:ic se X A rs)(hv:jg rs=true)(hT:mU (bc rs) aP (iK rs) T Lv)(h1:ic vH X A1 (T.map pA))(h2:ic Hm X A2 Lv)(ht:nu X)(iF:il (cA (bc rs) aP) 10<=1099511627776):
 Calls prog 14 #[.agg #[G A rs.length c],.agg #[G A1 T.length c1,G A2 Lv.length c2]] X λ e X'=>e=.returned (.tuple #[.agg zfC,.bool false])/\aZ X X':=
 Eb A A1 A2 c c1 c2 rs T Lv X h hv hT h1 h2 ht iF
end
section
open Go.RowKit
theorem Ez{L:Nm}{l:List It}:∀{k i:Nat},k<=l.length->dC L l l.length=[]->∀c,zH (dZ L l k) c=(l.take k).any λ y=>decide (y.2.1=c)
 |0,_,_,_,c=>rfl
 |k+1,i,hk,hf,c=>by
  have hx:l[k]?=O l[k]:=af ar;have h0:=rj hf (show k<l.length from ar) hx;rw[dZ,hx,bu,hx];unfold zH;rw[kJ];have ih:=Ez (L:=L) (l:=l) (k:=k) (i:=0) ar hf c;unfold zH at ih;rw[ih];simp only[if_pos h0];rw[kJ];rfl
theorem yI{L:Nm}{l:List It}:∀{n k:Nat},n<=l.length->k<=n->(dZ L l n).take k=dZ L l k
 |0,k,_,hk=>by
  obtain rfl:k=0:=ar;rfl
 |n+1,k,hn,hk=>by
  have hx:l[n]?=O l[n]:=af ar
  have hlen:∀m,m<=l.length->(dZ L l m).length=m:=by
   intro m;induction m with
   |zero=>intro _;rfl
   |succ m ih=>
    intro hm;rw[dZ,af (show m<l.length from ar),ax,ih ar];rfl
  by_cases e:k=n+1
  · subst e
    rw[cU (by rw[hlen _ hn];exact ah _)]
  · rw[dZ,List.take_append_of_le_length (by rw[hlen n ar];omega)]
    exact yI ar ar
theorem Y8{x:It}(h:lK x=true)(h1:1<=x.1)(h7:x.1<=7):Ap x.1 x.2.2.2.1 x.2.2.2.2.1.1 x.2.2.2.2.1.2 x.2.2.2.2.2.1.1 x.2.2.2.2.2.1.2=true:=by
 obtain⟨kd,nm,ws,n,⟨rn,rd⟩,⟨sn,sd⟩,fR⟩:=x;have hk:kd=1\/kd=2\/kd=3\/kd=4\/kd=5\/kd=6\/kd=7:=by simp only at h1 h7;omega
 rcases hk with rfl|rfl|rfl|rfl|rfl|rfl|rfl<;>simp[lK,Aa,ou,Ap,qJ] at h⊢ <;>omega
theorem acJ{z:Zn}(h:BR z):zG z=true:=Oc λ k hk=>by have h1:aP=mH:=rfl;have :=h.2 k hk;unfold Wd;rw[h1];simp only[aD,decide_eq_true_eq];omega
theorem K8{L:Nm}{l:List It}(h:je L l=[]):jg (jx L l)=true:=by
 obtain⟨hl,hf⟩:=yD h;have hlen:=zP h;unfold jg;rw[aD,decide_eq_true_eq];refine⟨ar,F4 λ j hj r hr=>?_⟩;have hj':j<l.length:=ar;have hx:l[j]?=O l[j]:=af hj';obtain⟨k1,k2,k3,k4⟩:=Ex h hx;rw[hr] at k1;cases k1
 obtain⟨m1,m2,m3,m4,m5,m6⟩:=Ew k4;unfold Au
 have e1:zH ((jx L l).take j) (vx L l[j]).2.1=false:=by unfold jx;rw[if_pos h,yI (ah _) ar,Ez (i:=0) ar hf];exact m6
 rw[e1,Bool.false_or];unfold Kd;have e2:=Y8 m3 m4 m5;have e3:decide (200<(vx L l[j]).2.2.1.length)=false:=decide_eq_false (by show ¬200<(jI L l[j]).length;omega)
 have e4:((vx L l[j]).2.2.1.any λ z=>!zG z)=false:=by rw[List.any_eq_false];intro z hz;rw[acJ (QS L l[j] z hz)];simp
 rw[e3,e4,Bool.or_false,Bool.or_false];show(!Ap l[j].1 l[j].2.2.2.1 l[j].2.2.2.2.1.1 l[j].2.2.2.2.1.2 l[j].2.2.2.2.2.1.1 l[j].2.2.2.2.2.1.2)=false;rw[e2];rfl
theorem QW{r x:Rg}{op n:Int}(h:x∈kg r op n):(x.1=r.1\/x.1=n\/x.1=n+1)/\(x.2=r.2\/x.2+1=n\/x.2+1=n+1):=by
 unfold kg at h;repeat' split at h
 all_goals simp only[aR,bH,or_false] at h
 all_goals first|(subst h;dsimp only;omega)|(rcases h with rfl|rfl<;>(dsimp only;omega))|exact h.elim
theorem QX{L:Nm}{ts:List Ts}{t:Ts}{z x:Zn}(h:tE L ts z)(ht:t∈ts)(hx:x∈mf z (eI L t).2.1 t.2.1 (eI L t).2.2):tE L ts x:=by
 obtain⟨hl,hz⟩:=h;unfold mf at hx;obtain⟨r,hr,rfl⟩:=eQ.1 hx;unfold sx at hr;obtain⟨h1,h2⟩:=QW (dY.1 hr).1;have ha:=OO L t;refine⟨by rw[mD];exact hl,λ b hb=>?_⟩;rw[yE ar];obtain⟨z1,z2⟩:=hz b hb;split
 · rename_i e
   subst e;refine⟨?_,?_⟩
   · rcases h1 with h1|h1|h1
     · rw[h1];exact z1
     · exact .inr ⟨t,ht,rfl,.inl h1⟩
     · exact .inr ⟨t,ht,rfl,.inr h1⟩
   · rcases h2 with h2|h2|h2
     · rw[h2];exact z2
     · exact .inr ⟨t,ht,rfl,.inl h2⟩
     · exact .inr ⟨t,ht,rfl,.inr h2⟩
 · exact⟨z1,z2⟩
theorem Gy{L:Nm}{ts:List Ts}:∀(l:List Ts)(out:List Zn),(∀t∈l,t∈ts)->(∀z∈out,tE L ts z)->∀z∈l.foldl (mI L) out,tE L ts z
 |[],out,_,h=>h
 |t::l,out,hs,h=>Gy l (mI L out t) (λ u hu=>hs u (di _ hu)) (λ z hz=>by
   unfold mI at hz;obtain⟨y,hy,hz⟩:=dP.1 hz;exact QX (h y hy) (hs t (dA ..)) hz)
theorem La(L:Nm)(ts:List Ts):tE L ts mH:=⟨rfl,λ a _=>⟨.inl rfl,.inl rfl⟩⟩
theorem Lb{L:Nm}{x:It}:∀z∈jI L x,tE L x.2.2.1.flatten z:=by
 intro z hz;unfold jI at hz;split at hz
 · simp at hz;subst hz;exact La L _
 · obtain⟨l,hl,hz⟩:=dP.1 hz
   exact Gy l [mH] (λ t ht=>List.mem_flatten.2 ⟨l,hl,ht⟩) (by intro z hz;simp at hz;subst hz;exact La L _) z hz
def EA(l:List It):List Ts:=l.flatMap λ x=>x.2.2.1.flatten
theorem Lc{L:Nm}{l:List It}:∀r∈jx L l,∀z∈r.2.2.1,tE L (EA l) z:=by
 intro r hr z hz;obtain⟨i,hi,e⟩:=bo.1 hr;have hg:(jx L l)[i]?=O r:=by rw[af hi,e]
 obtain⟨x,hx,rfl,_,_⟩:=Vy hg
 have hm:x∈l:=by obtain⟨h1,rfl⟩:=ai.1 hx;exact cD _
 exact(Lb z hz).mono λ t ht=>dP.2 ⟨x,hm,ht⟩
def Cg(L:Nm)(ts:List Ts)(a:Nat):List Ts:=ts.filter λ t=>decide ((eI L t).2.1=a)
theorem acK{a:Nat}(ha:a<10):0<=(atR aP a).1:=by rcases(ar:a=0\/a=1\/a=2\/a=3\/a=4\/a=5\/a=6\/a=7\/a=8\/a=9) with rfl|rfl|rfl|rfl|rfl|rfl|rfl|rfl|rfl|rfl<;>decide
theorem pW{L:Nm}{ts:List Ts}{Z:List Zn}(h:∀z∈Z,tE L ts z){a:Nat}(ha:a<10):cA Z aP a<=2+2*(Cg L ts a).length:=by
 have nA:=acK ha
 have hm:∀v∈mA Z aP a,v∈ [(atR aP a).1,1]++(Cg L ts a).flatMap λ t=>[(eI L t).2.2,(eI L t).2.2+1]:=λ v hv=>by
  have hv:=((lU Z aP a (List.range (Z.length+1))).2.2 v).1 hv;unfold fI at hv;rcases aR.1 hv with rfl|hv
  · simp
  · obtain⟨z,hz,hv⟩:=dP.1 hv
    obtain⟨h1,h2⟩:=dY.1 hv;simp only[aD,decide_eq_true_eq] at h2;by_cases hzl:z<Z.length
    · have V7:dK Z z∈Z:=by
       unfold dK;rw[av,af hzl];exact cD _
      obtain⟨k1,k2⟩:=(h _ V7).2 a ha
      have hk:∀t∈ts,(eI L t).2.1=a->v=(eI L t).2.2\/v=(eI L t).2.2+1->v∈ [(atR aP a).1,1]++(Cg L ts a).flatMap λ t=>[(eI L t).2.2,(eI L t).2.2+1]:=λ t ht e hv=>by refine bV.2 (.inr (dP.2 ⟨t,dY.2 ⟨ht,by simpa using e⟩,?_⟩));rcases hv with hv|hv<;>simp[hv]
      have e9:aP=mH:=rfl;simp only[aR,bH,or_false] at h1;rcases h1 with rfl|rfl
      · rcases k1 with k1|⟨t,ht,e,k⟩
        · rw[<-e9] at k1;omega
        · exact hk t ht e k
      · rcases k2 with k2|⟨t,ht,e,k⟩
        · rw[<-e9] at k2;omega
        · exact hk t ht e k
    · have e:dK Z z=[]:=by
       unfold dK;rw[av,cX ar];rfl
      rw[e] at h1;have e2:atR [] a=(0,0):=rfl;rw[e2] at h1;simp only[aR,bH,or_false] at h1;refine bV.2 (.inl ?_);rcases h1 with rfl|rfl
      · omega
      · simp
 have h3:=rP (lU Z aP a (List.range (Z.length+1))).1 hm;rw[ax] at h3
 have h4:((Cg L ts a).flatMap λ t=>[(eI L t).2.2,(eI L t).2.2+1]).length=2*(Cg L ts a).length:=by
  generalize Cg L ts a=us;induction us with
  |nil=>rfl
  |cons t us ih=>simp only[gZ,ax,ih,bD,dG];omega
 rw[h4] at h3;exact h3
theorem Nj{Z:List Zn}{a m:Nat}(nA:(atR aP a).1=0)(zl:(atR aP a).2=(m:Int)):cA Z aP a<=m+1:=by
 have hm:∀v∈mA Z aP a,v∈(List.range (m+1)).map λ(n:Nat)=>(n:Int):=λ v hv=>by have hv:=((lU Z aP a (List.range (Z.length+1))).2.2 v).1 hv;have h1:=nC hv;rw[nA,zl] at h1;refine eQ.2 ⟨v.toNat,bG.2 ?_,?_⟩<;>omega
 have :=rP (lU Z aP a (List.range (Z.length+1))).1 hm;rw[bB,eW] at this;exact this
theorem VR(L:Nm):∀ts:List Ts,(Cg L ts 0).length+(Cg L ts 1).length+(Cg L ts 3).length+(Cg L ts 4).length+(Cg L ts 5).length+(Cg L ts 8).length+(Cg L ts 9).length<=ts.length
 |[]=>by simp[Cg]
 |t::ts=>by
  have ih:=VR L ts
  have key:∀a,(Cg L (t::ts) a).length=(Cg L ts a).length+if(eI L t).2.1=a then 1 else 0:=λ a=>by
   unfold Cg;rw[jU];by_cases h:(eI L t).2.1=a
   · rw[if_pos (by simpa using h),if_pos h];rfl
   · rw[if_neg (by simpa using h),if_neg h];rfl
  simp only[key,bD];generalize(eI L t).2.1=q;by_cases q0:q=0
  · subst q0;simp;omega
  by_cases q1:q=1
  · subst q1;simp;omega
  by_cases q3:q=3
  · subst q3;simp;omega
  by_cases q4:q=4
  · subst q4;simp;omega
  by_cases q5:q=5
  · subst q5;simp;omega
  by_cases q8:q=8
  · subst q8;simp;omega
  by_cases q9:q=9
  · subst q9;simp;omega
  rw[if_neg q0,if_neg q1,if_neg q3,if_neg q4,if_neg q5,if_neg q8,if_neg q9];omega
theorem VT{p q y c d:Nat}(ih:q*c<=16*y*d)(h1:p<=q*9):p*c<=16*(y*9)*d:=by
 refine bm (gh c h1) ?_;have e1:q*9*c=q*c*9:=by rw[fQ,jv 9 c,fQ]
 have e2:16*(y*9)*d=16*y*d*9:=by rw[<-fQ,fQ (16*y) 9 d,jv 9 d,<-fQ]
 rw[e1,e2];exact gh 9 ih
theorem Y9:∀t:Nat,(2+2*t)*8 ^ t*4782969<=16*9 ^ t*2097152:=by
 intro t;by_cases h:t<8
 · rcases(ar:t=0\/t=1\/t=2\/t=3\/t=4\/t=5\/t=6\/t=7) with rfl|rfl|rfl|rfl|rfl|rfl|rfl|rfl<;>decide
 · obtain⟨k,rfl⟩:∃k,t=8+k:=⟨t - 8,ar⟩
   clear h;induction k with
   |zero=>decide
   |succ k ih=>
    have e1:(8:Nat)^ (8+(k+1))=8 ^ (8+k)*8:=by rw[<-fu,Nat.pow_succ]
    have e2:(9:Nat)^ (8+(k+1))=9 ^ (8+k)*9:=by rw[<-fu,Nat.pow_succ]
    rw[e1,e2];clear e1 e2;generalize(8:Nat)^ (8+k)=x at *;generalize(9:Nat)^ (8+k)=y at *
    have h1:(2+2*(8+(k+1)))*(x*8)<=(2+2*(8+k))*x*9:=by
     have :(2+2*(8+(k+1)))*(x*8)=((2+2*(8+(k+1)))*8)*x:=by rw[jv x 8,fQ]
     rw[this];have :(2+2*(8+k))*x*9=((2+2*(8+k))*9)*x:=by rw[fQ,jv x 9,<-fQ]
     rw[this];exact gh x ar
    exact VT ih h1
theorem QY{p0 p1 p3 p4 p5 p8 p9 x0 x1 x3 x4 x5 x8 x9 y0 y1 y3 y4 y5 y8 y9 c d:Nat}(m:p0*(x0*c)*(p1*(x1*c)*(p3*(x3*c)*(p4*(x4*c)*(p5*(x5*c)*(p8*(x8*c)*(p9*(x9*c)))))))<=y0*d*(y1*d*(y3*d*(y4*d*(y5*d*(y8*d*(y9*d))))))):
 (p0*(p1*(p3*(p4*(p5*(p8*p9))))))*(x0*(x1*(x3*(x4*(x5*(x8*x9))))))*c ^ 7<=(y0*(y1*(y3*(y4*(y5*(y8*y9))))))*d ^ 7:=by
 have a1:p0*(x0*c)*(p1*(x1*c)*(p3*(x3*c)*(p4*(x4*c)*(p5*(x5*c)*(p8*(x8*c)*(p9*(x9*c)))))))=(p0*(p1*(p3*(p4*(p5*(p8*p9))))))*(x0*(x1*(x3*(x4*(x5*(x8*x9))))))*c ^ 7:=by simp only[Nat.pow_succ,Nat.pow_zero,Nat.one_mul,Nat.mul_one,fQ,Nat.mul_left_comm,jv]
 have a2:y0*d*(y1*d*(y3*d*(y4*d*(y5*d*(y8*d*(y9*d))))))=(y0*(y1*(y3*(y4*(y5*(y8*y9))))))*d ^ 7:=by simp only[Nat.pow_succ,Nat.pow_zero,Nat.one_mul,Nat.mul_one,fQ,Nat.mul_left_comm,jv]
 rw[a1,a2] at m;exact m
theorem QZ{P S k c d:Nat}(m2:P*8 ^ S*c<=9 ^ S*d)(hk:S+k=54):P*(8 ^ 54*c)<=9 ^ 54*d:=by
 have h9:(9:Nat)^ S*8 ^ k<=9 ^ 54:=by rw[<-hk,Nat.pow_add];exact Nat.mul_le_mul_left _ (Nat.pow_le_pow_left cj k)
 have h8:(8:Nat)^ S*8 ^ k=8 ^ 54:=by rw[<-hk,Nat.pow_add]
 rw[<-h8];generalize(9:Nat)^ 54=e at *;generalize(9:Nat)^ S=a at *;generalize(8:Nat)^ S=b at *;generalize(8:Nat)^ k=f at *;have m3:=gh f m2;have m4:=gh d h9;have b1:P*b*c*f=P*(b*f*c):=by simp only[fQ,Nat.mul_left_comm,jv]
 have b2:a*d*f=a*f*d:=by simp only[fQ,Nat.mul_left_comm,jv]
 omega
theorem Nk(t0 t1 t3 t4 t5 t8 t9:Nat)(h:t0+t1+t3+t4+t5+t8+t9<=54):(2+2*t0)*((2+2*t1)*((2+2*t3)*((2+2*t4)*((2+2*t5)*((2+2*t8)*(2+2*t9))))))<=500000000:=by
 have f:∀t:Nat,∃x y:Nat,x=8 ^ t/\y=9 ^ t/\(2+2*t)*(x*4782969)<=y*33554432:=λ t=>⟨_,_,rfl,rfl,by have :=Y9 t;rw[<-fQ];refine bm this (Nat.le_of_eq ?_);rw[jv 16,fQ]⟩
 obtain⟨x0,y0,ex0,ey0,g0⟩:=f t0;obtain⟨x1,y1,ex1,ey1,g1⟩:=f t1;obtain⟨x3,y3,ex3,ey3,g3⟩:=f t3;obtain⟨x4,y4,ex4,ey4,g4⟩:=f t4;obtain⟨x5,y5,ex5,ey5,g5⟩:=f t5;obtain⟨x8,y8,ex8,ey8,g8⟩:=f t8;obtain⟨x9,y9,ex9,ey9,g9⟩:=f t9;have m:=et g0 (et g1 (et g3 (et g4 (et g5 (et g8 g9)))))
 have eX:x0*(x1*(x3*(x4*(x5*(x8*x9)))))=8 ^ (t0+t1+t3+t4+t5+t8+t9):=by subst ex0 ex1 ex3 ex4 ex5 ex8 ex9;simp only[<-Nat.pow_add,fu]
 have eY:y0*(y1*(y3*(y4*(y5*(y8*y9)))))=9 ^ (t0+t1+t3+t4+t5+t8+t9):=by subst ey0 ey1 ey3 ey4 ey5 ey8 ey9;simp only[<-Nat.pow_add,fu]
 generalize hS:t0+t1+t3+t4+t5+t8+t9=S at *;clear ex0 ey0 ex1 ey1 ex3 ey3 ex4 ey4 ex5 ey5 ex8 ey8 ex9 ey9 f g0 g1 g3 g4 g5 g8 g9;generalize 2+2*t0=p0 at *;generalize 2+2*t1=p1 at *;generalize 2+2*t3=p3 at *;generalize 2+2*t4=p4 at *;generalize 2+2*t5=p5 at *;generalize 2+2*t8=p8 at *;generalize 2+2*t9=p9 at *;have m2:=QY m;rw[eX,eY] at m2;generalize p0*(p1*(p3*(p4*(p5*(p8*p9)))))=P at *;clear eX eY m hS;have hk:S+(54 - S)=54:=ar;have m4:=QZ m2 hk;have hle:9 ^ 54*33554432 ^ 7<=500000000*(8 ^ 54*4782969 ^ 7):=by decide+kernel
 have sy:0<8 ^ 54*4782969 ^ 7:=by decide+kernel
 exact Nat.le_of_mul_le_mul_right (bm m4 hle) sy
theorem Nl{L:Nm}{ts:List Ts}{Z:List Zn}(h:∀z∈Z,tE L ts z)(hl:ts.length<=54):il (cA Z aP) 10<=1099511627776:=by
 have h1:=Km (c:=cA Z aP) (λ a=>abe Z aP a) 10;have k0:=pW h (show 0<10 from ar);have k1:=pW h (show 1<10 from ar);have k2:=Nj (Z:=Z) (a:=2) (m:=1) cj cj;have k3:=pW h (show 3<10 from ar);have k4:=pW h (show 4<10 from ar);have k5:=pW h (show 5<10 from ar);have k6:=Nj (Z:=Z) (a:=6) (m:=3) cj cj;have k7:=Nj (Z:=Z) (a:=7) (m:=3) cj cj;have k8:=pW h (show 8<10 from ar);have k9:=pW h (show 9<10 from ar);have hs:=VR L ts;have hp:=Nk _ _ _ _ _ _ _ (bm hs hl);have e:uz (cA Z aP) 10=cA Z aP 0*(cA Z aP 1*(cA Z aP 2*(cA Z aP 3*(cA Z aP 4*(cA Z aP 5*(cA Z aP 6*(cA Z aP 7*(cA Z aP 8*(cA Z aP 9*1))))))))):=rfl;have m:=et k0 (et k1 (et k2 (et k3 (et k4 (et k5 (et k6 (et k7 (et k8 k9))))))));rw[Nat.mul_one] at e;rw[e] at h1;generalize cA Z aP 0*(cA Z aP 1*(cA Z aP 2*(cA Z aP 3*(cA Z aP 4*(cA Z aP 5*(cA Z aP 6*(cA Z aP 7*(cA Z aP 8*cA Z aP 9))))))))=Q at *;generalize 2+2*(Cg L ts 0).length=a0 at *;generalize 2+2*(Cg L ts 1).length=a1 at *;generalize 2+2*(Cg L ts 3).length=a3 at *;generalize 2+2*(Cg L ts 4).length=a4 at *;generalize 2+2*(Cg L ts 5).length=a5 at *;generalize 2+2*(Cg L ts 8).length=a8 at *;generalize 2+2*(Cg L ts 9).length=a9 at *
 have e2:a0*(a1*((1+1)*(a3*(a4*(a5*((3+1)*((3+1)*(a8*a9))))))))=32*(a0*(a1*(a3*(a4*(a5*(a8*a9)))))):=by have :(32:Nat)=2*(4*4):=rfl;rw[this];simp only[Nat.reduceAdd,fQ,Nat.mul_left_comm,jv]
 rw[e2] at m;generalize a0*(a1*(a3*(a4*(a5*(a8*a9)))))=aap at *;omega
theorem Nn{L:Nm}{l:List It}(hl:(EA l).length<=54):il (cA ((jx L l).flatMap λ r=>r.2.2.1) aP) 10<=1099511627776:=
 Nl (ts:=EA l) (L:=L) (λ z hz=>by obtain⟨r,hr,hz⟩:=dP.1 hz;exact Lc r hr z hz) hl
theorem EB{α β:Type}{f:α->List β}{m:Nat}:∀(l:List α),(∀x∈l,(f x).length<=m)->(l.flatMap f).length<=l.length*m
 |[],_=>bY
 |x::l,h=>by
  have h1:=h x (dA ..);have h2:=EB l (λ y hy=>h y (di _ hy));rw[gZ,ax,bD,Nat.add_mul];omega
theorem Q0{l:List It}(h1:l.length<=6)(h2:∀x∈l,x.2.2.1.length<=3/\∀ts∈x.2.2.1,ts.length<=3):(EA l).length<=54:=by
 have :=EB (f:=λ x:It=>x.2.2.1.flatten) (m:=9) l (λ x hx=>by obtain⟨k1,k2⟩:=h2 x hx;have :=EB (f:=λ ts:List Ts=>ts) (m:=3) x.2.2.1 (λ ts VY=>k2 ts VY);rw[List.flatMap_id'] at this;omega)
 unfold EA;omega
end
section
open Go
theorem jq{a b:Bool}(h:a=true)(k:b=true):(a&&b)=true:=by rw[h,k];rfl
theorem CH:Rows.topCompiledRow.wf (OpenSpec.ofChange Rows.topCompiledSpec)=true:=aV
theorem CI:laidOutB prog=true:=aV
theorem CJ:mapsRowed prog=true:=aV
theorem CK:Tryz.f3.params.all (prog.readableRec ·)=true:=aV
theorem CM:namedTie prog Rows.topCompiledRow.named Rows.topCompiledSpec.vars=true:=aV
theorem CN:(Rows.topCompiledRow.stops== [])=true:=aV
theorem CO:(prog.stops== [])=true:=aV
theorem CP:(Rows.topCompiledRow.knobs== [])=true:=aV
theorem CQ:(prog.stopKnobs== [])=true:=aV
theorem CR:(Rows.topCompiledRow.inPlace==prog.inPlace 3)=true:=aV
theorem Bc:(Rows.topCompiledRow.unfollowed==prog.unfollowed 3)=true:=aV
theorem Be:(Rows.topCompiledRow.recurses==prog.recurses 3)=true:=aV
theorem Bf:(Rows.topCompiledRow.named==prog.varsNamed 3)=true:=aV
theorem Bg:(Rows.topCompiledRow.maps==(Tryz.f3.params.toList++Rows.topCompiledSpec.plain.varTypes prog).any (prog.mapsRec ·))=true:=aV
theorem Bh:(Rows.topCompiledRow.ifaces==(Tryz.f3.params.toList++Rows.topCompiledSpec.plain.varTypes prog).any (prog.ifacesRec ·))=true:=aV
theorem Bi:(Rows.topCompiledRow.mapsOut==prog.mapsAmong Tryz.f3.resultTypes.toList)=true:=aV
theorem Bj:(Rows.topCompiledRow.loops==(Tryz.f3.params.toList++Rows.topCompiledSpec.plain.varTypes prog).any (prog.loopsFrom ·))=true:=aV
theorem Bn:(Rows.topCompiledRow.wideKeys==(Tryz.f3.params.toList++Rows.topCompiledSpec.plain.varTypes prog++Tryz.f3.resultTypes.toList).any (prog.wideKeysFrom ·))=true:=aV
theorem Bo:Rows.topCompiledSpec.vars.all (prog.varReadable ·)=true:=aV
theorem Bp:Tryz.f3.resultTypes.all (λ t=>prog.readableRec t&&decide (t<prog.types.size))=true:=aV
theorem Br:(Rows.topCompiledRow.ifacesOut==Tryz.f3.resultTypes.toList.any (prog.ifacesRec ·))=true:=aV
theorem Bt:(Rows.topCompiledRow.loopsOut==Tryz.f3.resultTypes.toList.any (prog.loopsFrom ·))=true:=aV
theorem Bu:(Rows.topCompiledRow.plainKeys==prog.plainKeys)=true:=aV
theorem Bv:Rows.topCompiledRow.shortTexts.isNone=true:=aV
theorem Bw:prog.stopsHeard=true:=aV
theorem Bz:prog.mayEnter=true:=aV
theorem BA:(Rows.topCompiledRow.lifted==prog.liftsFinal)=true:=aV
theorem BB:(prog.make==O Rows.topCompiledRow.make)=true:=aV
theorem BC:(Rows.topCompiledRow.kinds==(if Rows.topCompiledRow.domain.isEmpty then [] else Tryz.f3.params.toList.map λ t=>match prog.underlying t with |some (.int k)=>O k|_=>U))=true:=aV
theorem BD:(Rows.topCompiledRow.pinned==Rows.topCompiledRow.pinnedBy)=true:=aV
theorem BF:(Rows.topCompiledRow.veiled==(Tryz.f3.params.toList++Rows.topCompiledSpec.plain.varTypes prog++Tryz.f3.resultTypes.toList).any (prog.veiledRec ·))=true:=aV
theorem BG:Rows.topCompiledRow.veiledFits prog Tryz.f3.params.toList (Tryz.f3.params.toList++Rows.topCompiledSpec.plain.varTypes prog++Tryz.f3.resultTypes.toList)=true:=aV
theorem wj:joinedFacts prog 3 Tryz.f3 Rows.topCompiledSpec Rows.topCompiledRow=true:=
 jq (jq (jq (jq (jq (jq (jq (jq (jq (jq (jq (jq (jq (jq (jq (jq (jq (jq (jq (jq (jq (jq (jq (jq (jq (jq (jq (jq (jq (jq (jq CH CI) CJ) CK) CM) CN) CO) CP) CQ) CR) Bc) Be) Bf) Bg) Bh) Bi) Bj) Bn) Bo) Bp) Br) Bt) Bu) Bv) Bw) Bz) BA) BB) BC) BD) BF) BG
theorem yT:Tryz.f3.isInstance prog Rows.topCompiledRow.origin Rows.topCompiledRow.targs:=of_decide_eq_true aV
theorem yU:Tryz.f3.isWrapper prog Rows.topCompiledRow.wrapper Rows.topCompiledRow.mainSum:=by unfold Func.isWrapper;first|(rw[if_pos (by decide+kernel)];kernel_rfl)|(rw[if_neg (by decide+kernel)];exact⟨rfl,rfl⟩)
theorem xO:prog.funcNamed Rows.topCompiledRow.func=O 3:=aV
end
section
open Go.RowKit Go.ChangeAt
attribute [local go_sem] aQ aC bW
def Ni(l:Le):Bool:=decide (l.2.2.1.length+l.2.2.2.1.length<=6)
def rk(lh:List Le):Bool:=decide (lh.length<=3)&&lh.all Ni
theorem IC(hn:BA0)(x y:Int)(AH:dB)(lh:List Le)(ch:Nat)(w:agb)(B:Nat)(h:cG Ji w B AH lh)(hB:B<=w.heap.size)(r:Bool)(hr:rk lh=r):
 Calls prog 6 #[.agg #[.string hn,I J x,I J y,G AH lh.length ch]] w (jL (.bool r) w):=by
 have HH:=dt h hr;clear h hr;go_enter func6,ntmps6;go_upto_region 1 with fail;obtain⟨hb,rK⟩:∃z,w.heap.size=z:=⟨_,rfl⟩;refine forget (λ X=>Below w.heap.size w X/\Bk X hb #[.string hn,I J x,I J y,G AH lh.length ch] 26) ⟨dE,au _ _ _ _ rK⟩ ?_;rw[rK];rintro X ⟨h0,h2⟩;have h1:Below w.heap.size w X:=by rw[rK];exact h0
 clear rK h0;have HX:=dt h1 h2;clear h1 h2;go_wp2_with fail;go_loopw [3] (λ i wr=>∃(k:Nat),k<=lh.length/\i=I J k/\(lh.take k).all Ni=true/\(k<=3)/\Below X.heap.size X wr) (λ i _=>lh.length - (intOf i).toNat)
 case atStart=>exact⟨0,ar,rfl,rfl,ar,aA _ _⟩
 case round=>
  obtain⟨k,hk,rfl,hall,hk3,hwr⟩:=hrel;generalize wr=wA at *;have h1:=HX.t1.below hwr;obtain⟨c1,l1⟩:=h1.cl0;have HB:=dt (HX.q1.trans (hwr.mono HX.q1.size)) hwr;clear h1 hwr;by_cases hlt:k<lh.length
  · have kq:(k:Int)<(lh.length:Int):=ar
    by_cases h3:lh.length<=3
    · have h3i:(lh.length:Int)<=3:=ar
      obtain⟨b,off,VG,ht,AB,bs,cb,AA,tk,ca,q1,q2,q3,YU,rfl,hb',Hk,d0,d1,d2,d3,d4,d5,d6,d7,g1,g2,g3,gB,gA⟩:=GJ (HH.q1.keep (HB.q1.mono hB) (ah _)) hlt;have hbl:b<wA.heap.size:=by have :=HB.q1.size;omega
      have hst:=aT5 Ni Hk.o;rw[hall,Bool.true_and] at hst;clear gB gA hall d0 d1 d4 d5 d6 d7;by_cases h6:bs.length+tk.length<=6
      · as_aux_lemma=>
        have h6i:¬(6<(bs.length:Int)+(tk.length:Int)):=ar;have d9:decide (6<(bs.length:Int)+(tk.length:Int))=false:=decide_eq_false h6i;have S6:=aG (show((lh.take (k+1)).all Ni)=true by rw[hst];unfold Ni;exact decide_eq_true h6);clear hst;go_upto_region 4 with fail;refine bJ wA aV aV ?_;repeat(go_big_quiet_step (fail))
        refine wpQuiet_nil (λ v=>?_);go_wp2_with fail;go_roundw
        case rel=>exact⟨k+1,ar,gC,S6.o,ar,HB.t1.trans ((aT wA v).mono HB.t1.size)⟩
        case measure=>simp[intOf];omega
      · as_aux_lemma=>
        have h6i:(6<(bs.length:Int)+(tk.length:Int)):=ar;have d9:decide (6<(bs.length:Int)+(tk.length:Int))=true:=decide_eq_true h6i
        have HR:=aG (show r=false by rw[<-HH.t1];unfold rk;rw[List.all_eq_false.2 ⟨_,az Hk.o,by unfold Ni;simpa using h6⟩,Bool.and_false])
        clear hst;go_upto_region 4 with fail;refine bJ wA aV aV ?_;repeat(go_big_quiet_step (fail))
        refine wpQuiet_nil (λ v=>?_);go_wp2_with fail;go_ret;exact⟨eu HR.o.symm,HB.q1.trans ((aT wA v).mono HB.q1.size)⟩
    · as_aux_lemma=>have h3i:¬(lh.length:Int)<=3:=ar;have HR:=aG (show r=false by rw[<-HH.t1];unfold rk;rw[decide_eq_false h3,Bool.false_and]);clear hall;go_wp2_with fail;go_ret;exact⟨eu HR.o.symm,HB.q1⟩
  · as_aux_lemma=>obtain rfl:k=lh.length:=ar;rw[aX] at hall;have h3i:(lh.length:Int)<=3:=ar;have HR:=aG (show r=true by rw[<-HH.t1];unfold rk;rw[hall,decide_eq_true hk3];rfl);clear hall;go_wp2_with fail;go_ret;exact⟨eu HR.o.symm,HB.q1⟩
def rp(x:It):Bool:=decide (x.2.2.1.length<=3)&&x.2.2.1.all λ l=>decide (l.length<=3)
def mV(ls:List It):Bool:=ls.all rp&&decide (ls.length<=6)
theorem ID(A:dB)(ls:List It)(cap:Nat)(w:agb)(B:Nat)(h:cG Fu w B A ls)(hB:B<=w.heap.size)(hn:ls.length<=9223372036854775807):
 Calls prog 7 #[.agg #[G A ls.length cap]] w (jL (.bool (mV ls)) w):=by
 have HH:=aG (h.keep ((aj w (D #[G A ls.length cap] 29)).mono hB) (ah _));clear h;go_enter func7,ntmps7;by_cases h6:6<ls.length
 · have h6i:6<(ls.length:Int):=ar
   have H2:=aG (show mV ls=false by unfold mV;rw[decide_eq_false ar,Bool.and_false]);go_wp2_with fail;go_ret;exact⟨eu H2.o.symm,aj _ _⟩
 have h6i:¬6<(ls.length:Int):=ar;go_wp2_with fail;go_loop [3,4] (λ i _=>∃k:Nat,k<=ls.length/\i=I J k/\(ls.take k).all rp=true) (λ i _=>ls.length - (intOf i).toNat)
 case atStart=>exact⟨0,ar,rfl,rfl⟩
 case round=>
  obtain⟨k,hk,rfl,hall⟩:=hrel;by_cases hlt:k<ls.length
  · obtain⟨b,off,kd,nm,AW,ws,cw,n,rn,rd,sn,sd,fR,rfl,hb,Hk,d0,d1,d2,d3,d4,d5,d6,d7,d8,g1,g2,g3,f1,f2,f3,f4,f5,f6,f7,g4⟩:=xN HH.o hlt
    have kq:(k:Int)<(ls.length:Int):=ar;have bw:b<w.heap.size:=ar;have hat:=aT5 rp Hk.o;rw[hall,Bool.true_and] at hat;have Hat:=aG hat;clear hat hall g4 d0 d1 d3 d4 d5 d6 d7 d8;by_cases Lh:ws.length<=3
    · have alo:¬3<(ws.length:Int):=ar
      go_wp2_with fail;go_loop [4] (λ i=>∃j:Nat,j<=ws.length/\i=I J j/\(ws.take j).all (λ l=>decide (l.length<=3))=true) (λ i=>ws.length - (intOf i).toNat)
      case atStart=>exact⟨0,ar,rfl,rfl⟩
      case round=>
       obtain⟨j,hj,rfl,Gx⟩:=hrel;by_cases Lm:j<ws.length
       · obtain⟨b2,WB,A1,l,c1,rfl,hb2,Hj,g0,gl,HE⟩:=CF g3.o Lm
         have rE:(j:Int)<(ws.length:Int):=ar;have bw2:b2<w.heap.size:=ar;have Y7:=aT5 (λ l=>decide (l.length<=3)) Hj.o;rw[Gx,Bool.true_and] at Y7;by_cases h3:l.length<=3
         · have Zg:¬3<(l.length:Int):=ar
           have H2:=aG (show(ws.take (j+1)).all (λ l=>decide (l.length<=3))=true by rw[Y7];simpa using h3);clear Y7 Gx;go_wp2_with fail;go_round
           case rel=>exact⟨j+1,ar,gC,H2.o⟩
           case measure=>simp[intOf];omega
         · have Zg:3<(l.length:Int):=ar
           have H2:=aG (show mV ls=false by
            have :rp (kd,nm,ws,n,(rn,rd),(sn,sd),fR)=false:=by unfold rp;rw[Ev Hj.o (by simpa using h3),Bool.and_false]
            unfold mV;rw[Ev Hk.o this,Bool.false_and])
           clear Y7 Gx;go_wp2_with fail;go_ret;exact⟨eu H2.o.symm,aj _ _⟩
       · obtain rfl:j=ws.length:=ar
         rw[aX] at Gx;have H2:=aG (show(ls.take (k+1)).all rp=true by rw[Hat.o];unfold rp;rw[Gx];simpa using Lh);clear Gx;go_wp2_with fail;go_round
         case rel=>exact⟨k+1,ar,gC,H2.o⟩
         case measure=>simp[intOf];omega
    · have alo:3<(ws.length:Int):=ar
      have H2:=aG (show mV ls=false by
       have :rp (kd,nm,ws,n,(rn,rd),(sn,sd),fR)=false:=by unfold rp;rw[decide_eq_false (by simpa using Lh),Bool.false_and]
       unfold mV;rw[Ev Hk.o this,Bool.false_and])
      go_wp2_with fail;go_ret;exact⟨eu H2.o.symm,aj _ _⟩
  · obtain rfl:k=ls.length:=ar
    rw[aX] at hall;have H2:=aG (show mV ls=true by unfold mV;rw[hall,decide_eq_true ar];rfl);clear hall;go_wp2_with fail;go_ret;exact⟨eu H2.o.symm,aj _ _⟩
end
section
open Go.RowKit
theorem nU(r:Rg)(v:Int):r8 r v=true↔r.1<=v/\v<=r.2:=by unfold r8;simp
theorem Za{r:Rg}{op n v:Int}(h1:1<=op)(h6:op<=6):((sx r op n).any λ s=>r8 s v)=(r8 r v&&opB op v n):=by
 rw[jc,eD,aD,nU];have hop:op=1\/op=2\/op=3\/op=4\/op=5\/op=6:=ar;unfold sx;constructor
 · rintro⟨s,hs,hv⟩
   rw[dY] at hs;rw[nU] at hv;obtain⟨hs,_⟩:=hs;rcases hop with rfl|rfl|rfl|rfl|rfl|rfl<;>simp[kg] at hs<;>simp only[opB]<;>(first|(subst hs;simp only at hv;simp;omega)|(rcases hs with rfl|rfl<;>simp only at hv<;>simp <;>omega))
 · rintro⟨hv,ho⟩
   have key:∃s∈kg r op n,r8 s v=true:=by
    rcases hop with rfl|rfl|rfl|rfl|rfl|rfl<;>simp[opB] at ho
    · exact⟨(max r.1 n,min r.2 n),by simp[kg],by rw[nU];simp only;omega⟩
    · by_cases hlt:v<n
      · exact⟨(r.1,min r.2 (n - 1)),by simp[kg],by rw[nU];simp only;omega⟩
      · exact⟨(max r.1 (n+1),r.2),by simp[kg],by rw[nU];simp only;omega⟩
    · exact⟨(r.1,min r.2 (n - 1)),by simp[kg],by rw[nU];simp only;omega⟩
    · exact⟨(r.1,min r.2 n),by simp[kg],by rw[nU];simp only;omega⟩
    · exact⟨(max r.1 (n+1),r.2),by simp[kg],by rw[nU];simp only;omega⟩
    · exact⟨(max r.1 n,r.2),by simp[kg],by rw[nU];simp only;omega⟩
   obtain⟨s,hs,hv2⟩:=key;refine⟨s,dY.2 ⟨hs,?_⟩,hv2⟩;rw[nU] at hv2;simpa using(show s.1<=s.2 from ar)
theorem Ch(z:Zn)(f:Fc):rC z f=true↔∀k,k<10->r8 (atR z k) (eO f k)=true:=by unfold rC;rw[cY];exact⟨λ h k hk=>h k (by simpa using hk),λ h k hk=>h k (by simpa using hk)⟩
theorem Zb{z:Zn}{a:Nat}{op n:Int}{f:Fc}(hz:z.length=10)(ha:a<10)(h1:1<=op)(h6:op<=6):((mf z a op n).any λ y=>rC y f)=(rC z f&&opB op (eO f a) n):=by
 have hc:=Za (r:=atR z a) (op:=op) (n:=n) (v:=eO f a) h1 h6;unfold mf;rw[List.any_map];rw[jc,eD,aD];rw[jc,eD,aD] at hc;constructor
 · rintro⟨s,hs,hv⟩
   simp only[Function.comp] at hv;rw[Ch] at hv;have hva:=hv a ha;rw[yE ar,if_pos rfl] at hva;obtain⟨k1,k2⟩:=hc.1 ⟨s,hs,hva⟩;refine⟨(Ch z f).2 λ k hk=>?_,k2⟩;by_cases e:k=a
   · subst e;exact k1
   · have :=hv k hk
     rwa [yE ar,if_neg e] at this
 · rintro⟨hv,ho⟩
   rw[Ch] at hv;obtain⟨s,hs,Ye⟩:=hc.2 ⟨hv a ha,ho⟩;refine⟨s,hs,?_⟩;simp only[Function.comp];rw[Ch];intro k hk;rw[yE ar];split
   · rename_i e;subst e;exact Ye
   · exact hv k hk
theorem OV{L:Nm}{t:Ts}{f:Fc}(h0:(eI L t).1=0):∀{out:List Zn},(∀z∈out,BR z)->((mI L out t).any λ y=>rC y f)=((out.any λ y=>rC y f)&&zQ L f t)
 |[],_=>rfl
 |z::out,h=>by
  obtain⟨n1,_,_,n4,n5⟩:=B6 h0;have e:mI L (z::out) t=mf z (eI L t).2.1 t.2.1 (eI L t).2.2++mI L out t:=by simp[mI]
  rw[e,kJ,Zb (h z bY).1 n1 n4 n5,OV h0 (λ y hy=>h y (by simp[hy])),List.any_cons];unfold zQ;cases rC z f<;>cases(out.any λ y=>rC y f)<;>cases opB t.2.1 (eO f (eI L t).2.1) (eI L t).2.2<;>rfl
theorem OW{L:Nm}{f:Fc}:∀(l:List Ts)(out:List Zn),kP L l=U->(∀z∈out,BR z)->((l.foldl (mI L) out).any λ y=>rC y f)=((out.any λ y=>rC y f)&&l.all (zQ L f))
 |[],out,_,_=>bY
 |t::l,out,hb,h=>by
  unfold kP at hb;by_cases h0:(eI L t).1=0
  · rw[if_pos h0] at hb
    rw[List.foldl_cons,OW l _ hb (OP h),OV h0 h,List.all_cons,Bool.and_assoc]
  · rw[if_neg h0] at hb;cases hb
theorem Q3{L:Nm}{f:Fc}{l:List Ts}(hb:kP L l=U)(hl:rC mH f=true):((gJ L l).any λ y=>rC y f)=l.all (zQ L f):=by unfold gJ;rw[OW l [mH] hb (by intro z hz;simp at hz;subst hz;exact Iy)];simp[hl]
theorem Q4{L:Nm}{f:Fc}{x:It}(hb:oQ L x.2.2.1=U)(hl:rC mH f=true):((jI L x).any λ y=>rC y f)=IA L f x.2.2.1:=by
 unfold jI IA;by_cases h:x.2.2.1=[]
 · rw[if_pos h,h]
   simp[hl]
 · rw[if_neg h,decide_eq_false h,Bool.or_false]
   have hn:=zt hb;generalize x.2.2.1=ws at hn;clear h hb;induction ws with
   |nil=>rfl
   |cons l r ih=>
    rw[gZ,kJ,List.any_cons,Q3 (hn l bY) hl,ih (λ l hl=>hn l (by simp[hl]))]
end
end Go.Proofs.YtbcpcneadjcmlaaGreatDoor
