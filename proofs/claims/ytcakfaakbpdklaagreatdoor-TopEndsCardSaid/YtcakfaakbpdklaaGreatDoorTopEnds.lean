/- TopEnds: polls and work alone bring a cycle to its end within a number of rounds that the config tells, and after one more cycle just the objects that can be reached are left. For every config of at most eight pages, as the statement's own guard asks, and every script, no other condition. -/
import Derived.SevenTiedAt
import Derived.Test.YtcakfaakbpdklaaGreatDoorRows
import Derived.Test.YtcakfaakbpdklaaGreatDoorTie
import Derived.Test.YtcakfaakbpdklaaGreatDoorCards
import Derived.Test.YtcakfaakbpdklaaGreatDoorTopEnds12
set_option linter.unusedSimpArgs false
set_option linter.unusedVariables false
namespace Go.Proofs.YtcakfaakbpdklaaGreatDoor
open Go Go.Proofs Go.RowKit Go.ChangeShapes Go.WideShapes Go.ChangeAt Go.Proofs.QV
namespace TopEndsRow
theorem own:ownKnob Tryz.prog.godebug=none:=by kernel_rfl
theorem Zs:laidOutB Tryz.prog=true:=by kernel_rfl
theorem len {H:Type} (ds:List (DataW H)) (h:ds.length=2):∃a0 a1,ds=[a0,a1]:=by
 match ds,h with
 | [a0,a1],_=>exact⟨a0,a1,rfl⟩
set_option maxRecDepth 100000 in
theorem lifted (os:Os) (started:os.Started) (H:Type) (enc:TypeId × Value→H):
  ReturnsInHanded {} Tryz.checked os 6 .any (fun w args=>(Rows.topEndsSpec.pre enc Tryz.prog Tryz.f6 [] false w args∧laidMetH Tryz.prog LD w)∧sizedMet enc Tryz.prog Tryz.f6 (OpenSpec.ofChange Rows.topEndsSpec) false w args) (Rows.topEndsSpec.post enc Tryz.prog Tryz.f6 false true false false):=by
 refine Ur (M:=Tryz.checked) own started (by kernel_rfl) Tryz.func6
  (ChangeSpec.witness_shaped (enc:=enc) (C:=Tryz.checked) (os:=os) (X:=fun w _=>laidMetH Tryz.prog LD w) false (World.doorLaid Tryz.prog 400 os) #[.agg (Dk Eo).toArray,.slice none 0 0] 12 rfl (World.shaped_of_RefB (by kernel_rfl) (by kernel_rfl)) (by kernel_rfl) (by kernel_rfl) (by kernel_rfl) (TZ os _))
  rfl rfl Zs (by kernel_rfl) rfl Tryz.underlying4 (fun ds hl=>?_) ?_
 ·obtain⟨a0,a1,rfl⟩:=len ds hl
  rfl
 ·intro W args ds ps hA hL
  obtain⟨hA,⟨base,hw⟩,hre,hlt⟩:=hA
  obtain⟨hT,hz⟩:=Wn hL
  rw[Tryz.params6] at hA hre
  obtain⟨v0,vs0,d0,ds0,p0,q0,hargs,rfl,rfl,h0,r0⟩:=trodAll_cons hA
  obtain⟨v1,vs1,d1,ds1,p1,q1,rfl,rfl,rfl,h1,r1⟩:=trodAll_cons r0
  obtain⟨rfl,rfl,rfl⟩:=trodAll_nil r1
  obtain rfl:args = #[v0,v1]:=by cases args;simp_all
  obtain⟨cs,rfl,hcs⟩:=LP (d:=4) (ks:=[.int .i64,.int .i64,.int .i64,.int .i64,.int .i64,.int .i64,.int .i64,.int .i64,.int .i64,.int .i64]) Tryz.underlying23 (by kernel_rfl) (hw 0 23 v0 rfl rfl) h0
  obtain⟨cf,hcf⟩:=Y8 hcs
  obtain⟨xs,hr,hx⟩:=Nv (d:=4) (ks:=[.int .i64,.int .i64,.int .i64,.int .i64,.int .i64,.int .i64,.int .i64]) Tryz.underlying24 (by kernel_rfl) (by kernel_rfl) (by decide) (hw 1 24 v1 rfl rfl) h1
  obtain⟨l,rfl⟩:=Ti xs hx
  have e:cs=(Dk cf).toArray:=by rw[←hcf]
  subst e
  exact RR hT hz hr fun w' hf=>⟨rfl,hf⟩
theorem over:Rows.topEndsRow.holds Tryz.pinned (OpenSpec.ofChange Rows.topEndsSpec):=
 OpenClaim.holds_of_wide 6 Tryz.f6 rfl rfl rfl rfl rfl rfl rfl ⟨rfl,rfl,rfl,rfl,rfl⟩ rfl rfl rfl rfl rfl named Tryz.func6 Y4 XG XH
  (fun os started H enc _=>lifted os started H enc)
theorem card:Rows.TopEndsCardSaid:=
 Claim7.holds_tied_plain_at .later [] [.data] true (true, "0a64a7137f4d198caa5639d353744b9ce3e5842de8ad2b937f2d663ba31dc890") false
  over (fun _ h=>by cases h) Yh (fun _ h=>by cases h) topEnds_row_tie rfl ⟨rfl,rfl⟩ M0 rfl
  (fun f fn hf hfn=>by
   obtain rfl:f=6:=Option.some.inj (named.symm.trans hf) |>.symm
   obtain rfl:fn=Tryz.f6:=(Option.some.inj (Tryz.func6.symm.trans hfn)).symm
   exact⟨looks,fun j t ht=>by
    rw[Tryz.params6] at ht
    have hm:t∈[23,24]:=by simpa using Array.mem_of_getElem? ht
    have hall:([23,24].all fun u => !Tryz.prog.wantsStandIn u)=true:=by kernel_rfl
    exact (show Tryz.prog.wantsStandIn t=false by simpa using List.all_eq_true.1 hall t hm)⟩)
  YZ
end TopEndsRow
theorem topEnds_holds:Rows.TopEndsCardSaid:=TopEndsRow.card
#print axioms topEnds_holds
end Go.Proofs.YtcakfaakbpdklaaGreatDoor
