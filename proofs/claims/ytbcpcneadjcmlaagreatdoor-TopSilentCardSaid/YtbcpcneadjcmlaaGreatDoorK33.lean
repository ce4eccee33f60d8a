/- TopSilent: for every policy, number and facts that the law takes, it returns true, and what came in reads as it did; the listed tables are those of the program (the tied card). Conditions: none but those of the given statement. -/
import Derived.Test.YtbcpcneadjcmlaaGreatDoorK32
namespace Go.Proofs.YtbcpcneadjcmlaaGreatDoor
open Go.Proofs.Tryz
set_option maxRecDepth 100000
set_option maxHeartbeats 16000000
set_option linter.unusedVariables false
set_option linter.unusedSimpArgs false
open Value renaming int→I,slice→G
open IntKind renaming i64→J
open Option renaming some→O,none→U
open Go renaming Value→R
section
open Go.RowKit Go.ChangeShapes Go.WideShapes Go.ChangeAt
theorem acn(os:Os)(started:os.Started)(H:Type)(enc:TypeId×R->H):
 ReturnsInHanded {} Tryz.checked os 4 .any (λ w args=>(Rows.topSilentSpec.pre enc prog Tryz.f4 [] false w args/\laidMetH prog Rows.topSilentRow.laid w)/\sizedMet enc prog Tryz.f4 (OpenSpec.ofChange Rows.topSilentSpec) false w args)
  (Rows.topSilentSpec.post enc prog Tryz.f4 false true false false):=by
 refine GL (C:=Tryz.checked) (laid:=Rows.topSilentRow.laid) own started aV func4 rfl (λ ds hds=>?_) (tb:=4) aV dW laidOut (λ t ht=>?_)
  (ChangeSpec.witness_shaped (enc:=enc) (C:=Tryz.checked) (os:=os) (X:=λ w _=>laidMetH prog Rows.topSilentRow.laid w) false (World.laidAll prog os Rows.topSilentRow.laid)
   #[.agg #[G U 0 0],.int .u8 0,.agg #[I J 0,I J 0,I J 0,I J 0,I J 0,I J 0,I J 0,I J 0,I J 0,I J 0]] 8 (World.laidAll_os _ _ _)
   (World.shaped_of_ZipB aV aV) aV aV aV
   (by rw[MakeChecks.laidMetH_plain _ _ _ aV];exact laidMet_laidAll _ aV aV)) ?_
 · rw[params4] at hds
   match ds,hds with
   |[_,_,_],_=>rfl
 · have :=cY.1 (show(Tryz.f4.params.toList.all λ t=>prog.readableRec t&&decide (t<prog.types.size))=true from aV) t ht
   simp only[aD,decide_eq_true_eq] at this;exact this
 · intro W args hL g
   rw[params4] at g;obtain⟨v0,q0,e0,g0,h0⟩:=g.cons_inv;obtain⟨v1,q1,rfl,g1,h1⟩:=h0.cons_inv;obtain⟨v2,q2,rfl,g2,h2⟩:=h1.cons_inv;obtain rfl:=h2.WE;obtain rfl:args=#[v0,v1,v2]:=by cases args;simp_all
   obtain⟨c0,y0,rfl,r0⟩:=g0.got.agg underlying38 aeG;obtain⟨n,rfl,n1,n2⟩:=g1.got.u8 nI aV;obtain⟨c2,y2,rfl,r2⟩:=g2.got.arr iu WM;obtain⟨A,cap,e1,b1,b2,b3⟩:=afo r0;obtain⟨e3,b4,b5⟩:=aam r2;rw[e1,e3];exact aek A y0 cap n y2 W b3 b1 b2 n1 n2 b4 b5 (GK hL)
theorem adb:Rows.TopSilentSaid:=
 OpenClaim.holds_of_wide 4 Tryz.f4 rfl rfl rfl rfl rfl rfl rfl ⟨rfl,rfl,rfl,rfl,rfl⟩ rfl rfl rfl rfl rfl acp func4 abN acv acw
  (λ os started H enc _=>acn os started H enc)
theorem topSilent_holds:Rows.TopSilentCardSaid:=
 Claim7.holds_tied_plain_at .later [] [.data,.data,.data,.sentinel,.sentinel] true (true, "eec3f6f7081aab3cc15648c2ff774a920d1f630e419a5ac8df30d41de8e4eb2e") true adb (λ _ h=>by cases h) aV (λ _ h=>by cases h) topSilent_row_tie rfl ⟨rfl,rfl⟩ aV rfl
  (λ f fn hf hfn=>by
   obtain rfl:f=4:=aO ((show prog.funcNamed "foyer/foyertop.TopSilent" =O 4 from aV).symm.trans hf) |>.symm
   obtain rfl:fn=Tryz.f4:=(aO (func4.symm.trans hfn)).symm
   exact⟨aV,λ j t ht=>by
    rw[params4] at ht;have hm:t∈ [38,5,31]:=by simpa using Array.mem_of_getElem? ht
    have hall:([38,5,31].all λ u=>!prog.wantsStandIn u)=true:=aV;exact(show prog.wantsStandIn t=false by simpa using cY.1 hall t hm)⟩)
  aV
end
end Go.Proofs.YtbcpcneadjcmlaaGreatDoor
