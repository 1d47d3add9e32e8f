/- TopLike: a machine whose collector runs on any schedule answers each step as a graph that has no collector answers it, and behind each step the same objects, with the same fields, can be reached; only an object, or work ahead, may be refused, and a refusal changes nothing. For every config and every script, no condition. -/
import Derived.SevenTiedAt
import Derived.Test.YtcakfaakbpdklaaGreatDoorRows
import Derived.Test.YtcakfaakbpdklaaGreatDoorTie
import Derived.Test.YtcakfaakbpdklaaGreatDoorCards
import Derived.Test.YtcakfaakbpdklaaGreatDoorTopLike12
set_option linter.unusedSimpArgs false
set_option linter.unusedVariables false
namespace Go.Proofs.YtcakfaakbpdklaaGreatDoor
open Go Go.Proofs Go.RowKit Go.ChangeShapes Go.WideShapes Go.ChangeAt Go.Proofs.QV
namespace TopLikeRow
theorem own:ownKnob Tryz.prog.godebug=none:=by kernel_rfl
theorem Yj:laidOutB Tryz.prog=true:=by kernel_rfl
theorem len {H:Type} (ds:List (DataW H)) (h:ds.length=2):∃a0 a1,ds=[a0,a1]:=by
 match ds,h with
 | [a0,a1],_=>exact⟨a0,a1,rfl⟩
set_option maxRecDepth 100000 in
theorem lifted (os:Os) (started:os.Started) (H:Type) (enc:TypeId × Value→H):
  ReturnsInHanded {} Tryz.checked os 3 .any (fun w args=>(Rows.topLikeSpec.pre enc Tryz.prog Tryz.f3 [] false w args∧laidMetH Tryz.prog LD w)∧sizedMet enc Tryz.prog Tryz.f3 (OpenSpec.ofChange Rows.topLikeSpec) false w args) (Rows.topLikeSpec.post enc Tryz.prog Tryz.f3 false true false false):=by
 refine SX (M:=Tryz.checked) own started (by kernel_rfl) Tryz.func3
  (ChangeSpec.witness_shaped (enc:=enc) (C:=Tryz.checked) (os:=os) (X:=fun w _=>laidMetH Tryz.prog LD w) false (World.doorLaid Tryz.prog 400 os) #[.agg (C9 DY).toArray,.slice none 0 0] 12 rfl (World.shaped_of_RefB (by kernel_rfl) (by kernel_rfl)) (by kernel_rfl) (by kernel_rfl) (by kernel_rfl) (SD os _))
  rfl rfl Yj (by kernel_rfl) rfl Tryz.underlying4 (fun ds hl=>?_) ?_
 ·obtain⟨a0,a1,rfl⟩:=len ds hl
  rfl
 ·intro W args ds ps hA hL
  obtain⟨hA,⟨base,hw⟩,hre,hlt⟩:=hA
  obtain⟨hT,hz⟩:=UR hL
  rw[Tryz.params3] at hA hre
  obtain⟨v0,vs0,d0,ds0,p0,q0,hargs,rfl,rfl,h0,r0⟩:=trodAll_cons hA
  obtain⟨v1,vs1,d1,ds1,p1,q1,rfl,rfl,rfl,h1,r1⟩:=trodAll_cons r0
  obtain⟨rfl,rfl,rfl⟩:=trodAll_nil r1
  obtain rfl:args = #[v0,v1]:=by cases args;simp_all
  obtain⟨cs,rfl,hcs⟩:=KC (d:=4) (ks:=[.int .i64,.int .i64,.int .i64,.int .i64,.int .i64,.int .i64,.int .i64,.int .i64,.int .i64,.int .i64]) Tryz.underlying23 (by kernel_rfl) (hw 0 23 v0 rfl rfl) h0
  obtain⟨cf,hcf⟩:=Xp hcs
  obtain⟨xs,hr,hx⟩:=Mg (d:=4) (ks:=[.int .i64,.int .i64,.int .i64,.int .i64,.int .i64,.int .i64,.int .i64]) Tryz.underlying24 (by kernel_rfl) (by kernel_rfl) (by decide) (hw 1 24 v1 rfl rfl) h1
  obtain⟨l,rfl⟩:=RE xs hx
  have e:cs=(C9 cf).toArray:=by rw[←hcf]
  subst e
  exact Qw hT hz hr fun w' hf=>⟨rfl,hf⟩
theorem over:Rows.topLikeRow.holds Tryz.pinned (OpenSpec.ofChange Rows.topLikeSpec):=
 OpenClaim.holds_of_wide 3 Tryz.f3 rfl rfl rfl rfl rfl rfl rfl ⟨rfl,rfl,rfl,rfl,rfl⟩ rfl rfl rfl rfl rfl named Tryz.func3 Xk Wy Wz
  (fun os started H enc _=>lifted os started H enc)
theorem card:Rows.TopLikeCardSaid:=
 Claim7.holds_tied_plain_at .later [] [.data] true (true, "0a64a7137f4d198caa5639d353744b9ce3e5842de8ad2b937f2d663ba31dc890") false
  over (fun _ h=>by cases h) WJ (fun _ h=>by cases h) topLike_row_tie rfl ⟨rfl,rfl⟩ Im rfl
  (fun f fn hf hfn=>by
   obtain rfl:f=3:=Option.some.inj (named.symm.trans hf) |>.symm
   obtain rfl:fn=Tryz.f3:=(Option.some.inj (Tryz.func3.symm.trans hfn)).symm
   exact⟨looks,fun j t ht=>by
    rw[Tryz.params3] at ht
    have hm:t∈[23,24]:=by simpa using Array.mem_of_getElem? ht
    have hall:([23,24].all fun u => !Tryz.prog.wantsStandIn u)=true:=by kernel_rfl
    exact (show Tryz.prog.wantsStandIn t=false by simpa using List.all_eq_true.1 hall t hm)⟩)
  XQ
end TopLikeRow
theorem topLike_holds:Rows.TopLikeCardSaid:=TopLikeRow.card
#print axioms topLike_holds
end Go.Proofs.YtcakfaakbpdklaaGreatDoor
