/- Part 19 of what the law needs: own lemmas, in the order in which they build. -/
import Derived.LaidMore
import Derived.OpenShut
import Derived.Stop.Joined
import Derived.Test.YtcakfaakbpdklaaGreatDoorRows
import Derived.Test.YtcakfaakbpdklaaGreatDoorProg
import Derived.Test.YtcakfaakbpdklaaGreatDoorTopFrees18
set_option linter.unusedSimpArgs false
set_option linter.unusedVariables false
namespace Go.Proofs.YtcakfaakbpdklaaGreatDoorV
open Go Go.Proofs Go.RowKit Go.ChangeShapes Go.WideShapes Go.ChangeAt
theorem qzc {M:Checked} {os:Os} {f:FuncId} {fn:Func} {s:ChangeSpec} {H:Type} {enc:TypeId × Value→H} {LD:List (String × DataW Unit)}
  (own:ownKnob M.prog.godebug=none) (started:os.Started) (noInit:M.prog.inits.idxOf? f=none) (hfn:M.prog.funcs[f]?=some fn)
  (witness:∃(w:World) (tape:Tape) (i:Input),w.os=os∧(w.forCall tape i).Shaped M.prog∧i.vars=[]∧Input.okWide M.prog (w.forCall tape i) .any w.heap.size f i∧
   ((s.pre enc M.prog fn [] false (w.forCall tape i).memory i.args∧laidMetH M.prog LD (w.forCall tape i).memory)∧sizedMet enc M.prog fn (OpenSpec.ofChange s) false (w.forCall tape i).memory i.args)∧({}:Assume).holds M.prog (lone (Frame.enter M.prog f i.args .normal) [] (w.forCall tape i)))
  (hvars:s.vars=[]) (hpv:s.plain.varTypes M.prog=[]) (hlaid:laidOutB M.prog=true) (hread:(fn.params.toList.all fun t=>M.prog.readableRec t && Nat.blt t M.prog.types.size)=true)
  {tb:TypeId} (hres:fn.resultTypes = #[tb]) (hub:M.prog.underlying tb=some .bool) (hspec:∀ds:List (DataW H),ds.length=fn.params.toList.length→s.fn H ds={ results:=[.lit (.bool true)],args:=ds })
  (contract:∀(W:World) (args:Array Value) (ds:List (DataW H)) (ps:List MemPlace),zdb enc M.prog fn W args ds ps→laidMetH M.prog LD W→C.i M.prog f args W fun v W'=>v = .bool true∧Fr [] W W'):
  ReturnsInHanded {} M os f .any (fun w args=>(s.pre enc M.prog fn [] false w args∧laidMetH M.prog LD w)∧sizedMet enc M.prog fn (OpenSpec.ofChange s) false w args) (s.post enc M.prog fn false true false false):=by
 refine returnsInHanded_of_change_and (X:=fun w _=>laidMetH M.prog LD w) (fun _ _ _ hh h=>h.of_heap hh) own started noInit hfn witness ?_
 intro W base args ds gs before hval hW hcnd hsz hL _
 have hW':=hW
 obtain⟨p,q,hA,hV,rfl,hfz,hnd⟩:=hW
 rw[hvars] at hV
 obtain⟨rfl,rfl⟩:=trodVars_none hV
 simp only[List.append_nil] at *
 have hlt:∀x∈p,x.block<W.heap.size:=fun x hx=>hW'.lt x hx
 rw[hpv,List.append_nil] at hsz
 refine Calls.mono (contract W args ds p ⟨hA,⟨base,hval⟩,hsz,hlt⟩ hL) ?_
 rintro e W' ⟨v,rfl,rfl,hf⟩
 refine⟨_,rfl,ds,[],p,[],p,[],hW',?_,?_,?_,hf.below.frame _,fun h=>by cases h⟩
 ·rw[List.append_nil,hspec ds (qfy _ _ _ _ hA).2,hres]
  exact trodAll_mk1 (shut_bool hub _)
 ·rw[List.append_nil,hspec ds (qfy _ _ _ _ hA).2]
  refine qi7 hlaid hf.below _ _ _ _ (fun t ht=>?_) hA hlt
  have:=List.all_eq_true.1 hread t ht
  simp only[Bool.and_eq_true] at this
  exact⟨this.1,by simpa[Nat.blt_eq] using this.2⟩
 ·rw[List.append_nil,hspec ds (qfy _ _ _ _ hA).2,hvars]
  rfl
abbrev LD : List (String × DataW Unit) := [("math/bits.deBruijn64tab", Go.Proofs.YtcakfaakbpdklaaGreatDoor.Rows.laid_math_bits_deBruijn64tab)]
theorem zgw : Tryz.prog.globalNamed "math/bits.deBruijn64tab" = some 0 := by kernel_rfl
theorem zhi:(Tryz.prog.globals[0]?).map (·.type)=some 334:=by kernel_rfl
theorem qyx (os:Os) (args:Array Value):laidMetH Tryz.prog LD ((World.doorLaid Tryz.prog 400 os).forCall (fun _ _=>0) ⟨#[],args,[]⟩).memory:=
 laidMetH_of_parts3 (fuel:=8) (laidMet_of_run' 8 (by kernel_rfl) (by kernel_rfl)) (by kernel_rfl) (by kernel_rfl)
theorem zfl:∀(n:Nat) (L:List Nat) (xs:List (DataW Unit × List MemPlace)) (l:List Value) (sp:Nat→Bool) (hd:Bool) (m:Nat) (W:World),xs.map (·.1)=L.map (fun k:Nat=>DataW.lit (.int .u8 (k:Int)))→(∀i,i<L.length→DataW.trod (fun _:TypeId × Value=>()) Tryz.prog W n sp hd m 5 ((l.drop (i*1)).take 1)=xs[i]?)→∀j,j<L.length→l[j]?=some (.int .u8 (L.getD j 0:Nat)):=by
 intro n L xs l sp hd m W hm hel j hj
 have hlen:xs.length=L.length:=by have:=congrArg List.length hm;simpa using this
 have h0:=hel j hj
 rw[List.getElem?_eq_getElem (by omega)] at h0
 obtain⟨k,e1,e2,_⟩:=DataW.trod_int Tryz.underlying5 h0
 have e3:(xs.map (·.1))[j]?=(L.map fun k:Nat=>DataW.lit (.int .u8 (k:Int)))[j]?:=by rw[hm]
 rw[List.getElem?_map,List.getElem?_map,List.getElem?_eq_getElem (by omega),List.getElem?_eq_getElem hj] at e3
 simp only[Option.map_some,Option.some.injEq] at e3
 rw[e2] at e3
 have hk:k=(L[j]:Nat):=by simpa using e3
 rw[Nat.mul_one] at e1
 have e4:(l.drop j)[0]?=some (.int .u8 k):=by
  have:((l.drop j).take 1)[0]?=some (.int .u8 k):=by rw[e1];rfl
  rwa [List.getElem?_take_of_lt (by decide)] at this
 rw[List.getElem?_drop,Nat.add_zero] at e4
 have hg:L.getD j 0=L[j]:=by simp[List.getD_eq_getElem?_getD,List.getElem?_eq_getElem hj]
 rw[e4,hk,hg]
theorem zci {W:World} (h:laidMetH Tryz.prog LD W):TzB W∧0<W.heap.size:=by
 rw[MakeChecks.laidMetH_plain _ _ _ (by kernel_rfl)] at h
 obtain⟨ps,⟨g0,t0,cs0,f0,p0,q0,hg0,ht0,hv0,hd0,_,_⟩,_,_⟩:=h
 obtain rfl:=Option.some.inj (zgw.symm.trans hg0)
 obtain rfl:=Option.some.inj (zhi.symm.trans ht0)
 obtain⟨xs,m,rfl,hx,hl,hn,hel⟩:=DataW.trod_array Tryz.underlying334 hd0
 simp only[Prod.mk.injEq] at hx
 have c5:Tryz.prog.cellsOf 5=1:=by kernel_rfl
 rw[c5] at hel
 have hcell:∀j,j<64→W.cell? ⟨0,j,none⟩=some (.int .u8 (Lib.deBruijn64tab.getD j 0:Nat)):=fun j hj=>by
  have hj':j<Lib.deBruijn64tab.length:=hj
  rw[World.var?_cell hg0 hv0 j]
  have hx1:xs.map (·.1)=Lib.deBruijn64tab.map (fun k:Nat=>DataW.lit (.int .u8 (k:Int))):=by
   have h1:=hx.1
   have h2:(Go.Proofs.YtcakfaakbpdklaaGreatDoor.Rows.laid_math_bits_deBruijn64tab:DataW Unit) = .agg (Lib.deBruijn64tab.map fun k:Nat=>DataW.lit (.int .u8 (k:Int))):=by kernel_rfl
   rw[h2] at h1
   simpa using h1.symm
  have:=zfl _ Lib.deBruijn64tab xs cs0.toList _ _ m W hx1 (fun i hi=>hel i hi) j hj'
  simpa using this
 have h0:=hcell 0 (by decide)
 cases hb:W.heap[0]? with
 | none=>simp[World.cell?,hb] at h0
 | some o=>
  cases o with
  | cells cs e fz=>
   refine⟨⟨cs,e,fz,hb,fun j hj=>?_⟩,(Array.getElem?_eq_some_iff.1 hb).1⟩
   have:=hcell j hj
   simpa[World.cell?,hb] using this
  | _=>simp[World.cell?,hb] at h0
end Go.Proofs.YtcakfaakbpdklaaGreatDoorV
namespace Go.Proofs.YtcakfaakbpdklaaGreatDoorV
open Go Go.Proofs Go.RowKit
theorem qbu {k:IntKind} {ks:List CK} {x:List Value} (h:qbm (.int k :: ks) x):∃n y,x = .int k n :: y∧qbm ks y:=by
 cases x with
 | nil=>exact h.elim
 | cons a y=>
  obtain⟨⟨n,ha,_⟩,hy⟩:=h
  exact⟨n,y,by rw[ha],hy⟩
theorem qwx {x:List Value} (h:qbm [] x):x=[]:=by
 cases x with
 | nil=>rfl
 | cons a y=>exact h.elim
theorem zgf {x:List Value} (h:qbm [.int .i64,.int .i64,.int .i64,.int .i64,.int .i64,.int .i64,.int .i64,.int .i64,.int .i64,.int .i64] x):∃cf:Cf,x=cfV cf:=by
 obtain⟨a,x1,e1,h1⟩:=qbu h
 obtain⟨b,x2,e2,h2⟩:=qbu h1
 obtain⟨c,x3,e3,h3⟩:=qbu h2
 obtain⟨d,x4,e4,h4⟩:=qbu h3
 obtain⟨e,x5,e5,h5⟩:=qbu h4
 obtain⟨f,x6,e6,h6⟩:=qbu h5
 obtain⟨g,x7,e7,h7⟩:=qbu h6
 obtain⟨i,x8,e8,h8⟩:=qbu h7
 obtain⟨j,x9,e9,h9⟩:=qbu h8
 obtain⟨k,x10,e10,h10⟩:=qbu h9
 have e0:=qwx h10
 rw[e1,e2,e3,e4,e5,e6,e7,e8,e9,e10,e0]
 exact⟨⟨a,b,c,d,e,f,g,i,j,k⟩,rfl⟩
theorem zgg {x:List Value} (h:qbm [.int .i64,.int .i64,.int .i64,.int .i64,.int .i64,.int .i64,.int .i64] x):∃s:Stp,[x]=stC [s]:=by
 obtain⟨a,x1,e1,h1⟩:=qbu h
 obtain⟨b,x2,e2,h2⟩:=qbu h1
 obtain⟨c,x3,e3,h3⟩:=qbu h2
 obtain⟨d,x4,e4,h4⟩:=qbu h3
 obtain⟨e,x5,e5,h5⟩:=qbu h4
 obtain⟨f,x6,e6,h6⟩:=qbu h5
 obtain⟨g,x7,e7,h7⟩:=qbu h6
 have e0:=qwx h7
 rw[e1,e2,e3,e4,e5,e6,e7,e0]
 exact⟨⟨a,b,c,d,e,f,g⟩,rfl⟩
theorem qxh:∀(xs:List (List Value)),(∀x∈xs,qbm [.int .i64,.int .i64,.int .i64,.int .i64,.int .i64,.int .i64,.int .i64] x)→∃l,xs=stC l
 | [],_=>⟨[],rfl⟩
 | x :: xs,h=>by
  obtain⟨l,hl⟩:=qxh xs fun y hy=>h y (by simp[hy])
  obtain⟨s,hs⟩:=zgg (h x (by simp))
  refine⟨s :: l,?_⟩
  have e1:stC (s :: l)=stC [s] ++ stC l:=by simp[stC]
  rw[e1, ←hs,hl];rfl
end Go.Proofs.YtcakfaakbpdklaaGreatDoorV
