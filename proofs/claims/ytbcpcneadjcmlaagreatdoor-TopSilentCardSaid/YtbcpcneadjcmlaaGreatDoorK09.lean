import Derived.Test.YtbcpcneadjcmlaaGreatDoorK08
namespace Go.Proofs.YtbcpcneadjcmlaaGreatDoor
open Go.Proofs.Tryz
set_option maxRecDepth 100000
set_option maxHeartbeats 16000000
set_option linter.unusedVariables false
set_option linter.unusedSimpArgs false
open Value renaming int→I,slice→G,pointer→M
open IntKind renaming i64→J
open Obj renaming cells→D
open Option renaming some→O,none→U
open Go renaming Value→R,World→agb
section
open Go.RowKit
attribute [local go_sem] aQ aC bW
theorem PK(num den most:Int)(has:Bool)(w:agb)(hm:most=1\/most=10)(hn:fits num)(hd:fits den):
 Calls prog 155 #[.agg #[I J num,I J den],.bool has,I J most] w (jL (.bool (ou (num,den) has most)) w):=by
 cases has
 · by_cases h0:num=0/\den=0
   · obtain⟨rfl,rfl⟩:=h0
     have e:ou (0,0) false most=true:=by unfold ou;simp
     rw[e];go_enter func155,ntmps155;go_wp2_with fail;go_ret;exact⟨rfl,dE⟩
   · have e:ou (num,den) false most=false:=by
      unfold ou;rw[if_neg cj];refine decide_eq_false λ h=>h0 ?_;injection h with h1 h2
      exact⟨h1,h2⟩
     rw[e];have hc:(¬num=0)\/(num=0/\¬den=0):=ar;clear e h0;rcases hc with q1|⟨rfl,q2⟩
     all_goals
      go_enter func155,ntmps155;go_wp2_with fail;go_ret;exact⟨rfl,dE⟩
 · have e:ou (num,den) true most=(decide (1<=den)&&decide (den<=1000000)&&decide (0<=num)&&decide (num<=most*den)&&decide (num<=1000000)):=rfl
   rw[e];clear e;unfold fits at hn hd;obtain⟨a1,a2⟩:=hn;obtain⟨b1,b2⟩:=hd;by_cases q1:1<=den
   · by_cases q2:den<=1000000
     · by_cases q3:0<=num
       · obtain⟨p,hp⟩:∃p,most*den=p:=⟨_,rfl⟩
         have hp2:0<=p/\p<=10000000:=by rcases hm with rfl|rfl<;>omega
         obtain⟨p1,p2⟩:=hp2;have Hp:=aG hp;rw[hp];by_cases q4:num<=p
         · by_cases q5:num<=1000000
           · rw[decide_eq_true q1,decide_eq_true q2,decide_eq_true q3,decide_eq_true q4,decide_eq_true q5]
             go_enter func155,ntmps155;go_wp2_with fail;go_ret;exact⟨rfl,dE⟩
           · rw[decide_eq_true q1,decide_eq_true q2,decide_eq_true q3,decide_eq_true q4,decide_eq_false q5]
             go_enter func155,ntmps155;go_wp2_with fail;go_ret;exact⟨rfl,dE⟩
         · rw[decide_eq_true q1,decide_eq_true q2,decide_eq_true q3,decide_eq_false q4]
           go_enter func155,ntmps155;go_wp2_with fail;go_ret;exact⟨rfl,dE⟩
       · rw[decide_eq_true q1,decide_eq_true q2,decide_eq_false q3]
         go_enter func155,ntmps155;go_wp2_with fail;go_ret;exact⟨rfl,dE⟩
     · rw[decide_eq_true q1,decide_eq_false q2]
       go_enter func155,ntmps155;go_wp2_with fail;go_ret;exact⟨rfl,dE⟩
   · rw[decide_eq_false q1]
     go_enter func155,ntmps155;go_wp2_with fail;go_ret;exact⟨rfl,dE⟩
theorem PL(kd:Int):(gj kd [(1,I J 100),(3,I J 10000000)]).getD (I J 0)=I J (Aa kd):=by
 unfold Aa gj;by_cases h1:kd=1
 · rw[if_pos h1,if_pos h1];rfl
 · rw[if_neg h1,if_neg h1]
   unfold gj;by_cases h3:kd=3
   · rw[if_pos h3,if_pos h3];rfl
   · rw[if_neg h3,if_neg h3];rfl
theorem J1(num den most:Int)(has:Bool)(hm:most=1\/most=10)(hn:fits num)(hd:fits den)(r:Bool)(h:ou (num,den) has most=r):∀X,Calls prog 155 #[.agg #[I J num,I J den],.bool has,I J most] X (jL (.bool r) X):=λ X=>by have :=PK num den most has X hm hn hd;rwa [h] at this
theorem Al(kd:Int)(nm:BA0)(AW:dB)(k cw:Nat)(n rn rd sn sd fR:Int)(ws:List (List Ts))(w:agb)(f1:fits kd)(f2:fits n)(f3:fits rn)(f4:fits rd)(f5:fits sn)(f6:fits sd):
 Calls prog 77 #[.agg #[I J kd,.string nm,G AW k cw,I J n,I J rn,I J rd,I J sn,I J sd,I J fR]] w λ e w'=>e=.returned (.bool (lK (kd,nm,ws,n,(rn,rd),(sn,sd),fR)))/\aZ w w':=by
 have ai0:0<=Aa kd/\Aa kd<=10000000:=by unfold Aa;repeat' split<;>omega
 obtain⟨mo,Xh⟩:∃q,Aa kd=q:=⟨_,rfl⟩;rw[Xh] at ai0;have SZ:=aG Xh;obtain⟨b1,hb1⟩:∃b,ou (rn,rd) (decide (kd=3)||decide (kd=4)||decide (kd=5)) (if kd=4 then 10 else 1)=b:=⟨_,rfl⟩;obtain⟨b2,hb2⟩:∃b,ou (sn,sd) (decide (kd=3)||decide (kd=4)) 1=b:=⟨_,rfl⟩;have he:lK (kd,nm,ws,n,(rn,rd),(sn,sd),fR)=(decide (0<=n)&&decide (n<=mo)&&b1&&b2):=by unfold lK;rw[Xh,hb1,hb2]
 rw[he];obtain⟨aap,hR⟩:∃aap,(decide (0<=n)&&decide (n<=mo)&&b1&&b2)=aap:=⟨_,rfl⟩;rw[hR];have HR:=aG hR;clear hR;have Xn:=aG (J1 rn rd _ _ (by split<;>omega) f3 f4 b1 hb1);have JZ:=aG (J1 sn sd 1 _ (.inl rfl) f5 f6 b2 hb2);clear he hb1 hb2 Xh;have qf:= @run_makeMap prog;have hz:=pF;go_enter func77,ntmps77
 go_upto_region 2 with(first
  |(refine gy rfl _ _ _ _ rfl 3 3 tF aJ rfl (eh.Db (b:=w.heap.size+1) bY) 1 rfl rfl (I J 100) rfl ?_;intro wA hA oA;have HA:Hid (eh wA (w.heap.size+1) [(1,I J 100)]/\Bk wA w.heap.size #[I J kd,.string nm,G AW k cw,I J n,I J rn,I J rd,I J sn,I J sd,I J fR] 52/\aZ w wA):=aG ⟨hA,((Bk.new w _ _).alloc _).only oA ar,((aj w _).alloc bY _).trans (oA.aK (B:=w.heap.size) (λ g hg=>ar) gW)⟩;clear hA oA)
  |(refine gy rfl _ _ _ _ rfl 3 3 tF aJ rfl HA.q1 3 rfl rfl (I J 10000000) rfl ?_;intro wB hB oB;have HB:Hid (eh wB (w.heap.size+1) [(1,I J 100),(3,I J 10000000)]/\Bk wB w.heap.size #[I J kd,.string nm,G AW k cw,I J n,I J rn,I J rd,I J sn,I J sd,I J fR] 52/\aZ w wB):=aG ⟨hB,HA.q2.only oB ar,HA.t2.trans (oB.aK (B:=w.heap.size) (λ g hg=>ar) HA.t2.size)⟩;clear hB oB;have cb:=HB.q2.cell;have lb:=HB.q2.lt)
  |(at_lookup;refine dQ rfl _ _ _ rfl 3 3 tF aJ (I J 0) (pF _) rfl HB.q1 kd rfl ?_;rw[PL,SZ.o]))
 clear HA qf hz;have HK:=aG HB.t2;clear HB SZ;have hk:kd=3\/kd=4\/kd=5\/(kd≠3/\kd≠4/\kd≠5):=ar;rcases hk with rfl|rfl|rfl|⟨q3,q4,q5⟩
 · simp at Xn JZ
   by_cases c1:0<=n
   · by_cases c2:n<=mo
     · cases b1<;>cases b2
       all_goals
        go_wp2_with (go_at_call 155;first|(with_reducible refine Calls.mono (Xn.o _) ?_;rintro e w9 ⟨rfl,hb⟩;(first|(obtain⟨u,rfl⟩:=gI hb;clear hb)|(obtain⟨u,rfl⟩:=ep hb;clear hb)|(obtain⟨u,rfl⟩:=dV hb;clear hb)))|(with_reducible refine Calls.mono (JZ.o _) ?_;rintro e w9 ⟨rfl,hb⟩;(first|(obtain⟨u,rfl⟩:=gI hb;clear hb)|(obtain⟨u,rfl⟩:=ep hb;clear hb)|(obtain⟨u,rfl⟩:=dV hb;clear hb))));go_ret;exact⟨eu (by rw[<-HR.o];first|rfl|(simp;done)|(simp;omega)|(simp[*];done)),by have hw:=HK.o;exact dE⟩
     · have c3:¬n<=mo:=c2
       clear c3;go_wp2_with fail;go_ret;exact⟨eu (by rw[<-HR.o];first|rfl|(simp;done)|(simp;omega)|(simp[*];done)),by have hw:=HK.o;exact dE⟩
   · have c3:¬0<=n:=c1
     clear c3;go_wp2_with fail;go_ret;exact⟨eu (by rw[<-HR.o];first|rfl|(simp;done)|(simp;omega)|(simp[*];done)),by have hw:=HK.o;exact dE⟩
 · simp at Xn JZ
   by_cases c1:0<=n
   · by_cases c2:n<=mo
     · cases b1<;>cases b2
       all_goals
        go_wp2_with (go_at_call 155;first|(with_reducible refine Calls.mono (Xn.o _) ?_;rintro e w9 ⟨rfl,hb⟩;(first|(obtain⟨u,rfl⟩:=gI hb;clear hb)|(obtain⟨u,rfl⟩:=ep hb;clear hb)|(obtain⟨u,rfl⟩:=dV hb;clear hb)))|(with_reducible refine Calls.mono (JZ.o _) ?_;rintro e w9 ⟨rfl,hb⟩;(first|(obtain⟨u,rfl⟩:=gI hb;clear hb)|(obtain⟨u,rfl⟩:=ep hb;clear hb)|(obtain⟨u,rfl⟩:=dV hb;clear hb))));go_ret;exact⟨eu (by rw[<-HR.o];first|rfl|(simp;done)|(simp;omega)|(simp[*];done)),by have hw:=HK.o;exact dE⟩
     · have c3:¬n<=mo:=c2
       clear c3;go_wp2_with fail;go_ret;exact⟨eu (by rw[<-HR.o];first|rfl|(simp;done)|(simp;omega)|(simp[*];done)),by have hw:=HK.o;exact dE⟩
   · have c3:¬0<=n:=c1
     clear c3;go_wp2_with fail;go_ret;exact⟨eu (by rw[<-HR.o];first|rfl|(simp;done)|(simp;omega)|(simp[*];done)),by have hw:=HK.o;exact dE⟩
 · simp at Xn JZ
   by_cases c1:0<=n
   · by_cases c2:n<=mo
     · cases b1<;>cases b2
       all_goals
        go_wp2_with (go_at_call 155;first|(with_reducible refine Calls.mono (Xn.o _) ?_;rintro e w9 ⟨rfl,hb⟩;(first|(obtain⟨u,rfl⟩:=gI hb;clear hb)|(obtain⟨u,rfl⟩:=ep hb;clear hb)|(obtain⟨u,rfl⟩:=dV hb;clear hb)))|(with_reducible refine Calls.mono (JZ.o _) ?_;rintro e w9 ⟨rfl,hb⟩;(first|(obtain⟨u,rfl⟩:=gI hb;clear hb)|(obtain⟨u,rfl⟩:=ep hb;clear hb)|(obtain⟨u,rfl⟩:=dV hb;clear hb))));go_ret;exact⟨eu (by rw[<-HR.o];first|rfl|(simp;done)|(simp;omega)|(simp[*];done)),by have hw:=HK.o;exact dE⟩
     · have c3:¬n<=mo:=c2
       clear c3;go_wp2_with fail;go_ret;exact⟨eu (by rw[<-HR.o];first|rfl|(simp;done)|(simp;omega)|(simp[*];done)),by have hw:=HK.o;exact dE⟩
   · have c3:¬0<=n:=c1
     clear c3;go_wp2_with fail;go_ret;exact⟨eu (by rw[<-HR.o];first|rfl|(simp;done)|(simp;omega)|(simp[*];done)),by have hw:=HK.o;exact dE⟩
 · have d3:=decide_eq_false q3
   have d4:=decide_eq_false q4;have d5:=decide_eq_false q5;rw[d3,d4,d5,if_neg q4] at Xn;rw[d3,d4] at JZ;simp at Xn JZ;have p3:¬kd=3:=q3;have p4:¬kd=4:=q4;have p5:¬kd=5:=q5;have e3:(kd==3)=false:=by simpa using q3
   have e4:(kd==4)=false:=by simpa using q4
   have e5:(kd==5)=false:=by simpa using q5
   clear q3 q4 q5;by_cases c1:0<=n
   · by_cases c2:n<=mo
     · cases b1<;>cases b2
       all_goals
        go_wp2_with (go_at_call 155;first|(with_reducible refine Calls.mono (Xn.o _) ?_;rintro e w9 ⟨rfl,hb⟩;(first|(obtain⟨u,rfl⟩:=gI hb;clear hb)|(obtain⟨u,rfl⟩:=ep hb;clear hb)|(obtain⟨u,rfl⟩:=dV hb;clear hb)))|(with_reducible refine Calls.mono (JZ.o _) ?_;rintro e w9 ⟨rfl,hb⟩;(first|(obtain⟨u,rfl⟩:=gI hb;clear hb)|(obtain⟨u,rfl⟩:=ep hb;clear hb)|(obtain⟨u,rfl⟩:=dV hb;clear hb))));go_ret;exact⟨eu (by rw[<-HR.o];first|rfl|(simp;done)|(simp;omega)|(simp[*];done)),by have hw:=HK.o;exact dE⟩
     · have c3:¬n<=mo:=c2
       clear c3;go_wp2_with fail;go_ret;exact⟨eu (by rw[<-HR.o];first|rfl|(simp;done)|(simp;omega)|(simp[*];done)),by have hw:=HK.o;exact dE⟩
   · have c3:¬0<=n:=c1
     clear c3;go_wp2_with fail;go_ret;exact⟨eu (by rw[<-HR.o];first|rfl|(simp;done)|(simp;omega)|(simp[*];done)),by have hw:=HK.o;exact dE⟩
end
section
open Go.RowKit Go.ChangeAt
attribute [local go_sem] aQ aC bW
def kZ:Array R:=#[I J 0,.string ⟨#[]⟩,G U 0 0,I J 0,I J 0,I J 0,I J 0,I J 0]
theorem Df(rb fb:Nat)(w:agb):CallsD prog 76 #[M (O ⟨rb,0,U⟩),M (O ⟨fb,0,U⟩)] .returning w λ e u' w'=>e=.returned (.tuple #[])/\u'=.returning/\w'=w:=by
 refine callsD_of_wpS func76 rfl λ LS cs hu=>?_;apply wpS_seq
 apply wpS_region
 simp[wpOpsS,go_sem,recoverD,hu,ntmps76,Exit.thenS];refine wpS_of_wp ?_;simp only[Array.replicate,List.replicate,dS,iD,iE,lu,eU,eV];go_wp2_with fail;cases LS
 simp_all [bodyPostS,results,results76]
theorem G6(v:R)(w:agb):(Instr.typeAssert (.iface 99 v) 20 99 false).run prog w=.ok v w:=by unfold Instr.typeAssert;simp only[Sem.run_bind,run_underlying underlying99 w,Result.andThen_ok];simp
theorem po(rb fb:Nat)(er ot:Int)(v0 v1 v2 v3 v4 v5 v6 v7 x0 x1:R)(w:agb)(hr:Bk w rb #[v0,v1,v2,v3,v4,v5,v6,v7] 48)(hf:Bk w fb #[x0,x1] 99):
 CallsD prog 76 #[M (O ⟨rb,0,U⟩),M (O ⟨fb,0,U⟩)] (.panicking [{v:=.iface 99 (.agg #[I J er,I J ot]),recovered:=false}]) w λ e u' w'=>e=.returned (.tuple #[])/\u'=.panicking [{v:=.iface 99 (.agg #[I J er,I J ot]),recovered:=true}]/\Bk w' rb kZ 48/\Bk w' fb #[I J er,I J ot] 99/\Only (λ g=>g=rb\/g=fb) w w':=by
 refine callsD_of_wpS func76 rfl λ LS cs hu=>?_;apply wpS_seq
 apply wpS_region
 simp[wpOpsS,go_sem,recoverD,hu,ntmps76,Exit.thenS];have c1:=hr.cell;have z1:=hr.free;have l1:=hr.lt;have c2:=hf.cell;have z2:=hf.free;have l2:=hf.lt;refine wpS_of_wp ?_;simp only[Array.replicate,List.replicate,dS,iD,iE,lu,eU,eV];go_wp2_with fail;have has:=G6;have hne:¬rb=fb:=JX hr hf cj;have EU:¬fb=rb:=λ h=>hne h.symm;have H:=dt hr hf;clear hr hf;go_region
 have hB1:Bk ((((((((w.setCell ⟨rb,0,U⟩ (I J 0)).setCell ⟨rb,1,U⟩ (.string ⟨#[]⟩)).setCell ⟨rb,2,U⟩ (G U 0 0)).setCell ⟨rb,3,U⟩ (I J 0)).setCell ⟨rb,4,U⟩ (I J 0)).setCell ⟨rb,5,U⟩ (I J 0)).setCell ⟨rb,6,U⟩ (I J 0)).setCell ⟨rb,7,U⟩ (I J 0)) rb kZ 48:=by have h:=(((((((H.q1.aS 0 (I J 0)).aS 1 (.string ⟨#[]⟩)).aS 2 (G U 0 0)).aS 3 (I J 0)).aS 4 (I J 0)).aS 5 (I J 0)).aS 6 (I J 0)).aS 7 (I J 0);simp only[dS,iD,iE] at h;exact h
 have V1:Bk ((((((((w.setCell ⟨rb,0,U⟩ (I J 0)).setCell ⟨rb,1,U⟩ (.string ⟨#[]⟩)).setCell ⟨rb,2,U⟩ (G U 0 0)).setCell ⟨rb,3,U⟩ (I J 0)).setCell ⟨rb,4,U⟩ (I J 0)).setCell ⟨rb,5,U⟩ (I J 0)).setCell ⟨rb,6,U⟩ (I J 0)).setCell ⟨rb,7,U⟩ (I J 0)) fb #[x0,x1] 99:=
  (((((((H.t1.far EU _).far EU _).far EU _).far EU _).far EU _).far EU _).far EU _).far EU _
 have PN:=(V1.aS 0 (I J er)).aS 1 (I J ot);simp only[dS,iD,iE] at PN;have Xo:=(hB1.far (p:=⟨fb,0,U⟩) hne (I J er)).far (p:=⟨fb,1,U⟩) hne (I J ot);change bodyPostS prog Tryz.f76 _ _ _ Exit.normal _ _ _;cases LS
 simp[bodyPostS,results,results76];exact⟨Xo.drew,PN.drew,GG⟩
theorem L0(sb:Nat)(kd:Int)(nm:BA0)(AW:dB)(k cw:Nat)(n rn rd sn sd fR:Int)(w:agb):
 Calls prog 27 #[M (O ⟨sb,0,U⟩),.agg #[I J kd,.string nm,G AW k cw,I J n,I J rn,I J rd,I J sn,I J sd,I J fR],.bool true] w λ e w'=>e=.returned (.tuple #[.agg kZ,.agg #[I J 9,I J (-1)]])/\aZ w w':=by
 have C9:∀(fn:Fn)(first cap:Array R)(w:agb),(Instr.makeFunc fn first cap).run prog w=.ok (.func fn first cap) w:=λ _ _ _ _=>rfl;go_enter_defers func27,ntmps27
 go_wp2_with fail;refine leaves_cons (f:=76) (args:=#[M (O ⟨w.heap.size+1,0,U⟩),M (O ⟨w.heap.size+1+1,0,U⟩)]) bY (by simp[go_sem]) ?_;refine(po (w.heap.size+1) (w.heap.size+1+1) 9 (-1) _ _ _ _ _ _ _ _ _ _ _ ((au _ _ _ _ bY).alloc _) (au _ _ _ _ bY)).mono ?_;rintro e u' w'' ⟨rfl,rfl,b1,b2,ho⟩;have c1:=b1.cell;have c2:=b2.cell;have l1:=b1.lt;have l2:=b2.lt;simp[Leaves,settle,results,results27,go_sem,c1,c2,l1,l2,kZ];exact(ay (ay (aj _ _) _) _).trans (ho.aK (B:=w.heap.size) (λ g hg=>ar) gW)
theorem L3(sb:Nat)(kd:Int)(nm:BA0)(AW:dB)(k cw:Nat)(n rn rd sn sd fR:Int)(w:agb)(h:kd<1):
 Calls prog 27 #[M (O ⟨sb,0,U⟩),.agg #[I J kd,.string nm,G AW k cw,I J n,I J rn,I J rd,I J sn,I J sd,I J fR],.bool false] w λ e w'=>e=.returned (.tuple #[.agg kZ,.agg #[I J 10,I J (-1)]])/\aZ w w':=by
 have C9:∀(fn:Fn)(first cap:Array R)(w:agb),(Instr.makeFunc fn first cap).run prog w=.ok (.func fn first cap) w:=λ _ _ _ _=>rfl;go_enter_defers func27,ntmps27
 go_wp2_with fail;refine leaves_cons (f:=76) (args:=#[M (O ⟨w.heap.size+1,0,U⟩),M (O ⟨w.heap.size+1+1,0,U⟩)]) bY (by simp[go_sem]) ?_;refine(po (w.heap.size+1) (w.heap.size+1+1) 10 (-1) _ _ _ _ _ _ _ _ _ _ _ ((au _ _ _ _ bY).alloc _) (au _ _ _ _ bY)).mono ?_;rintro e u' w'' ⟨rfl,rfl,b1,b2,ho⟩;have c1:=b1.cell;have c2:=b2.cell;have l1:=b1.lt;have l2:=b2.lt;simp[Leaves,settle,results,results27,go_sem,c1,c2,l1,l2,kZ];exact(ay (ay (aj _ _) _) _).trans (ho.aK (B:=w.heap.size) (λ g hg=>ar) gW)
theorem L4(sb:Nat)(kd:Int)(nm:BA0)(AW:dB)(k cw:Nat)(n rn rd sn sd fR:Int)(w:agb)(h0:¬kd<1)(h:7<kd):
 Calls prog 27 #[M (O ⟨sb,0,U⟩),.agg #[I J kd,.string nm,G AW k cw,I J n,I J rn,I J rd,I J sn,I J sd,I J fR],.bool false] w λ e w'=>e=.returned (.tuple #[.agg kZ,.agg #[I J 10,I J (-1)]])/\aZ w w':=by
 have C9:∀(fn:Fn)(first cap:Array R)(w:agb),(Instr.makeFunc fn first cap).run prog w=.ok (.func fn first cap) w:=λ _ _ _ _=>rfl;go_enter_defers func27,ntmps27
 go_wp2_with fail;refine leaves_cons (f:=76) (args:=#[M (O ⟨w.heap.size+1,0,U⟩),M (O ⟨w.heap.size+1+1,0,U⟩)]) bY (by simp[go_sem]) ?_;refine(po (w.heap.size+1) (w.heap.size+1+1) 10 (-1) _ _ _ _ _ _ _ _ _ _ _ ((au _ _ _ _ bY).alloc _) (au _ _ _ _ bY)).mono ?_;rintro e u' w'' ⟨rfl,rfl,b1,b2,ho⟩;have c1:=b1.cell;have c2:=b2.cell;have l1:=b1.lt;have l2:=b2.lt;simp[Leaves,settle,results,results27,go_sem,c1,c2,l1,l2,kZ];exact(ay (ay (aj _ _) _) _).trans (ho.aK (B:=w.heap.size) (λ g hg=>ar) gW)
theorem L5(sb:Nat)(kd:Int)(nm:BA0)(AW:dB)(k cw:Nat)(n rn rd sn sd fR:Int)(w:agb)(ws:List (List Ts))(h0:¬kd<1)(h:¬7<kd)(f1:fits kd)(f2:fits n)(f3:fits rn)(f4:fits rd)(f5:fits sn)(f6:fits sd)(hq:lK (kd,nm,ws,n,(rn,rd),(sn,sd),fR)=false):
 Calls prog 27 #[M (O ⟨sb,0,U⟩),.agg #[I J kd,.string nm,G AW k cw,I J n,I J rn,I J rd,I J sn,I J sd,I J fR],.bool false] w λ e w'=>e=.returned (.tuple #[.agg kZ,.agg #[I J 2,I J (-1)]])/\aZ w w':=by
 have C9:∀(fn:Fn)(first cap:Array R)(w:agb),(Instr.makeFunc fn first cap).run prog w=.ok (.func fn first cap) w:=λ _ _ _ _=>rfl;go_enter_defers func27,ntmps27
 go_wp2_with (go_at_call 77;refine(Al kd nm AW k cw n rn rd sn sd fR ws _ f1 f2 f3 f4 f5 f6).mono ?_;rw[hq];rintro e w9 ⟨rfl,hb⟩;obtain⟨u,rfl⟩:=dV hb;clear hb);refine leaves_cons (f:=76) (args:=#[M (O ⟨w.heap.size+1,0,U⟩),M (O ⟨w.heap.size+1+1,0,U⟩)]) bY (by simp[go_sem]) ?_;refine(po (w.heap.size+1) (w.heap.size+1+1) 2 (-1) _ _ _ _ _ _ _ _ _ _ _ (((au _ _ _ _ bY).alloc _).ext _) ((au _ _ _ _ bY).ext _)).mono ?_;rintro e u' w'' ⟨rfl,rfl,b1,b2,ho⟩;have c1:=b1.cell;have c2:=b2.cell;have l1:=b1.lt;have l2:=b2.lt;simp[Leaves,settle,results,results27,go_sem,c1,c2,l1,l2,kZ];exact(Below.jN (ay (ay (aj _ _) _) _) _).trans (ho.aK (B:=w.heap.size) (λ g hg=>ar) (by have :=ke (((w.alloc (D #[I J kd,.string nm,G AW k cw,I J n,I J rn,I J rd,I J sn,I J sd,I J fR] 52)).alloc (D kZ 48)).alloc (D #[I J 0,I J 0] 99)) u;simp at this;unfold kZ at this;omega))
end
end Go.Proofs.YtbcpcneadjcmlaaGreatDoor
