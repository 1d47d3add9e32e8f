/- Part 1 of what the law needs: own lemmas, in the order in which they build. -/
import Derived.WalkKit
import Derived.OrdersHeld
import Derived.KernelRfl
import Derived.Below
import Derived.OrdersIn
import Derived.TacticsIn
import Derived.RangeFuncSeq
import Derived.Scope
import Derived.Tactics
import Derived.RangeFuncIn
import Derived.RangeFuncLeaves
import Derived.RangeFuncRecord
import Derived.Carry
import Derived.ChangeOld
import Derived.SizedLaws
import Derived.Deep.Slices
import Derived.OpenShut
import Derived.ProofKit
import Derived.Maps.AppendAt
import Derived.Laws.OwnMore
import Derived.Laws.CopyRow
import Derived.Laws.IdiomCopy
set_option linter.defProp false
set_option linter.unusedSimpArgs false
set_option linter.unusedVariables false
namespace Go.Proofs.QV
open Go
open Option renaming some->wh
open Option renaming none->wj
open Bool renaming true->wk
open Bool renaming false->wl
open Go renaming Value->wm
open Go renaming World->wn
open Go renaming Program->wq
def wS.{u}:=@List.findIdx?_eq_some_iff_getElem.{u}
def wT.{u}:=@List.take_succ_eq_append_getElem.{u}
def wV.{u}:=@Array.getElem?_setIfInBounds_ne.{u}
def wW.{u}:=@List.eq_nil_of_length_eq_zero.{u}
def wX.{u}:=@List.getLast?_eq_some_getLast.{u}
def wY.{u}:=@Array.getElem?_setIfInBounds.{u}
def wZ.{u}:=@List.dropLast_concat_getLast.{u}
def xA.{u}:=@Array.getElem?_append_left.{u}
def xB.{u}:=@Array.getElem?_eq_some_iff.{u}
def xC:=@Int.fdiv_eq_ediv_of_nonneg
def xD:=@Int.tdiv_eq_ediv_of_nonneg
def xE:=@Int.tmod_eq_emod_of_nonneg
def xF.{u}:=@List.getD_eq_getElem?_getD.{u}
def xG.{u}:=@List.getElem?_append_right.{u}
def xH.{u}:=@Array.getElem?_eq_getElem.{u}
def xI:=@Classical.byContradiction
def xJ.{u}:=@List.drop_eq_getElem_cons.{u}
def xK.{u}:=@List.findIdx?_eq_none_iff.{u}
def xL.{u}:=@List.getElem?_append_left.{u}
def xM.{u}:=@List.getElem?_eq_some_iff.{u}
def xN.{u}:=@List.getElem_append_right.{u}
def xO.{u}:=@List.mem_or_eq_of_mem_set.{u}
def xP.{u}:=@List.pairwise_iff_getElem.{u}
def xQ.{u}:=@Option.isNone_iff_eq_none.{u}
def xR.{u}:=@List.eq_of_mem_replicate.{u}
def xS.{u}:=@List.getElem?_eq_getElem.{u}
def xT.{u}:=@List.getElem_append_left.{u}
def xU:=@Int.eq_ofNat_of_zero_le
def xV.{u}:=@List.getElem?_cons_succ.{u}
def xW.{u}:=@List.getElem?_cons_zero.{u}
def xX.{u}:=@List.getElem?_replicate.{u}
def xY:=@decide_eq_false_iff_not
def xZ.{u}:=@List.drop_of_length_le.{u}
def yA.{u}:=@List.getElem_replicate.{u}
def yB.{u}:=@List.take_of_length_le.{u}
def yC:=@Nat.ne_of_beq_eq_false
def yD.{u,v}:=@Option.map_eq_some_iff.{u,v}
def yE.{u}:=@Array.getElem?_modify.{u}
def yF.{u}:=@Array.getElem?_toList.{u}
def yG.{u}:=@List.getElem?_eq_none.{u}
def yH.{u}:=@List.getElem?_toArray.{u}
def yI.{u}:=@List.length_filter_le.{u}
def yJ.{u}:=@List.length_replicate.{u}
def yK.{u}:=@List.mem_iff_getElem?.{u}
def yL.{u}:=@List.take_append_drop.{u}
def yM:=@Nat.eq_of_beq_eq_true
def yN:=@Nat.le_of_ble_eq_true
def yO.{u}:=@List.dropLast_subset.{u}
def yP.{u}:=@List.getElem?_append.{u}
def yQ.{u}:=@List.mem_iff_getElem.{u}
def yR.{u}:=@List.mem_of_getElem?.{u}
def yS.{u}:=@List.mem_of_mem_take.{u}
def yT:=@Nat.mul_le_mul_right
def yU:=@Nat.pow_lt_pow_right
def yV:=@Int.toNat_of_nonneg
def yW.{u}:=@List.getElem_of_mem.{u}
def yX.{u}:=@List.replicate_succ.{u}
def yY:=@List.getElem?_range
def yZ:=@Bool.false_eq_true
def zA.{u}:=@List.filter_append.{u}
def zB.{u}:=@List.find?_eq_none.{u}
def zC.{u}:=@List.getElem?_drop.{u}
def zD.{u}:=@List.getElem?_take.{u}
def zE.{u}:=@List.length_append.{u}
def zF.{u}:=@List.mem_singleton.{u}
def zG:=@Nat.lt_of_lt_of_le
def zH.{u}:=@Option.toList_some.{u}
def zI.{u}:=@List.pairwise_cons.{u}
def zJ:=@Bool.not_eq_true'
def zK:=@Int.toNat_natCast
def zL.{u}:=@List.ext_getElem?.{u}
def zM.{u}:=@List.flatten_cons.{u}
def zN.{u,v}:=@List.getElem?_map.{u,v}
def zO.{u}:=@List.getElem?_set.{u}
def zP:=@List.length_range
def zQ.{u}:=@List.nodup_append.{u}
def zR.{u}:=@List.take_add_one.{u}
def zS.{u}:=@Option.some.injEq.{u}
def zT:=@Go.Result.andThen_ok
def zU:=@Go.Value.slice.injEq
def zV:=@decide_eq_true_eq
def zW:=@not_true_eq_false
def zX:=@not_false_eq_true
def zY:=@Bool.and_eq_true
def zZ.{u}:=@List.all_eq_true.{u}
def b6.{u}:=@List.drop_length.{u}
def b7.{u}:=@List.ext_getElem.{u}
def b8.{u,v}:=@List.getElem_map.{u,v}
def d7.{u}:=@List.getElem_mem.{u}
def d8.{u}:=@List.getElem_set.{u}
def d9.{u}:=@List.length_cons.{u}
def i7.{u}:=@List.length_drop.{u}
def i8.{u}:=@List.length_take.{u}
def i9.{u}:=@List.not_mem_nil.{u}
def j4.{u}:=@List.take_length.{u}
def j5.{u}:=@Option.getD_some.{u}
def j6:=@decide_eq_decide
def j7:=@Bool.eq_iff_iff
def j8.{u}:=@List.append_nil.{u}
def j9.{u,v}:=@List.length_map.{u,v}
def m7.{u}:=@List.length_nil.{u}
def m8.{u}:=@List.length_set.{u}
def m9.{u,v}:=@List.map_append.{u,v}
def n7.{u}:=@List.mem_append.{u}
def n9.{u}:=@List.nil_append.{u}
def o7.{u}:=@List.nodup_cons.{u}
def o8:=@List.range_succ
def o9.{u,v}:=@Option.map_some.{u,v}
def p6.{u}:=@Option.some.inj.{u}
def p7.{u}:=@List.mem_filter.{u}
def p9:=@decide_eq_false
def q9:=@Bool.not_false
def un:=@Int.mul_le_mul
def uo:=@Int.mul_nonneg
def uq:=@List.mem_range
def ur:=@decide_eq_true
def ut:=@Go.run_underlying
def uu:=@Bool.not_true
def uv:=@Int.ofNat.inj
def uw.{u,v}:=@List.map_cons.{u,v}
def ux.{u}:=@List.mem_cons.{u}
def uy:=@Nat.add_assoc
def uz.{u,v}:=@Prod.mk.injEq.{u,v}
def u4:=@Int.le_trans
def u6.{u,v}:=@List.map_nil.{u,v}
def u7.{u,v}:=@List.mem_map.{u,v}
def u9:=@Nat.add_zero
def va:=@Nat.le_trans
def vb:=@Nat.mul_comm
def vd:=@Nat.zero_add
def ve.{u,v}:=@Prod.ext_iff.{u,v}
def vf:=@Go.Sem.run_bind
def vg:=@Go.Sem.run_pure
def vh:=@Nat.sub_self
def vi.{u,v}:=@List.map_set.{u,v}
def vj:=@Int.le_refl
def vk:=@Nat.add_mul
def vl:=@Nat.le_refl
def vm:=@Nat.mul_one
def vn.{u}:=@Array.ext'.{u}
def vo:=@And.intro
def vp.{u}:=@cond_true.{u}
def vq.{u}:=@if_false.{u}
def vr.{u,v}:=@congrArg.{u,v}
def vt:=@or_false
def vu.{u}:=@if_true.{u}
def vv.{u}:=@Ne.symm.{u}
def vw.{u}:=@eq_self.{u}
def vx.{u}:=@if_neg.{u}
def vy.{u}:=@if_pos.{u}
def vz.{u}:=@ne_eq.{u}
abbrev C1:=List (Nat × wm)
def lk:C1->Nat->Option wm
 | [],_=>wj
 | (k,v)::r,t=>cond (Nat.beq k t) (wh v) (lk r t)
def Es:Nat:=4294967291
def Hs(env:C1)(t:Nat):Option wm:=cond (Nat.beq t Es) wj (lk env t)
def HJ{env:C1}{t:Nat}{v:wm}(h:Hs env t=wh v):t≠Es/\lk env t=wh v:=by
 unfold Hs at h;cases hb:Nat.beq t Es with
 | true=>rw[hb]at h;cases h
 | false=>rw[hb]at h;exact⟨yC hb,h⟩
def Oz{env:C1}{t:Nat}{v:wm}(h1:t≠Es)(h:lk env t=wh v):Hs env t=wh v:=by
 unfold Hs;cases hb:Nat.beq t Es with
 | true=>exact absurd (yM hb) h1
 | false=>exact h
def ev(env:C1):Operand->Option wm
 | .tmp t=>Hs env t
 | .const v=>wh v
 | .global g=>wh (.pointer (wh ⟨g,0,wj⟩))
 | .func f=>wh (.func (.func f) #[] #[])
def Ff(env:C1):List Deferred:=match lk env Es with
 | some (.int _ D)=>[{ target := .collected D.toNat,args := #[] }]
 | _=>[]
structure Df(n:Nat)(env:C1)(a:Act):Prop where
 defers:a.defers=Ff env
 size:a.tmps.size=n
 has:∀t v,Hs env t=wh v->a.tmps[t]?=wh v
def Df.eval{n:Nat}{env:C1}{a:Act}(h:Df n env a){x:Operand}{v:wm}(hv:ev env x=wh v):a.eval x=v:=by
 cases x with
 | tmp t=>simp[ev]at hv;simp[Act.eval,h.has t v hv]
 | const c=>simp[ev]at hv;simpa[Act.eval] using hv
 | global g=>simp[ev]at hv;simpa[Act.eval] using hv
 | func f=>simp[ev]at hv;simpa[Act.eval] using hv
def H5(k t:Nat)(v:wm)(r:C1):lk ((k,v)::r) t=if k=t then wh v else lk r t:=by
 simp only[lk];cases h:Nat.beq k t with
 | true=>have:k=t:=yM h;simp[this]
 | false=>have:k≠t:=yC h;simp[this]
def Df.put{n:Nat}{env:C1}{a:Act}(h:Df n env a){d:Nat}(v:wm)(hd:d<n)(hm:d≠Es):Df n ((d,v)::env) (a.put (wh d) v):=by
 refine⟨?_,by simpa[Act.put] using h.size,λt u hu=>?_⟩
 ·have:Ff ((d,v)::env)=Ff env:=by unfold Ff;rw[H5,vx hm]
  rw[this];exact h.defers
 ·obtain⟨ht,hu⟩:=HJ hu;rw[H5]at hu;by_cases hdt:d=t
  ·subst hdt;simp only[vu,zS]at hu;subst hu;have:=h.size;simp[Act.put,this,hd]
  ·simp only[hdt,vq]at hu;have:=h.has t u (Oz ht hu);simp[Act.put,hdt,this]
def Df.mono{n:Nat}{env env':C1}{a:Act}(h:Df n env a)(hs:∀t v,lk env' t=wh v->lk env t=wh v)(hm:(lk env Es).isSome=wk->(lk env' Es).isSome=wk):Df n env' a:=by
 refine⟨?_,h.size,λt v hv=>?_⟩
 ·have:Ff env'=Ff env:=by
   unfold Ff;cases h1:lk env' Es with
   | some v=>rw[hs _ _ h1]
   | none=>
    cases h2:lk env Es with
    | none=>rfl
    | some v=>rw[h1,h2]at hm;exact absurd (hm rfl) (by simp)
  rw[this];exact h.defers
 ·obtain⟨ht,hv⟩:=HJ hv;exact h.has t v (Oz ht (hs t v hv))
abbrev VK:=wm->wn->Prop
def FN(w:wn)(a:Addr)(i:Nat):Nat->Option (List wm)
 | 0=>wh []
 | n+1=>match w.cell? (a.add i),FN w a (i+1) n with
  | some v,some r=>some (v::r)
  | _,_=>wj
def Ky:List wm->Nat->Addr->wn->(wn->Prop)->Prop
 | [],_,_,w,K=>K w
 | v::r,i,a,w,K=>v.oneCell'=wk/\(∃u,w.cell? (a.add i)=wh u)/\w.frozen? (a.add i)=wl/\Ky r (i+1) a (w.setCell (a.add i) v) K
def Hq(P:wq)(t:TypeId):Option Nat:=(P.info? t).map (·.size)
def Lz(P:wq)(t:TypeId):Option Bool:=(P.underlying t).map λd=>match d with | .struct _ | .array _ _=>wk | _=>wl
def Mj(P:wq)(t:TypeId):Option wm:=(P.info? t).bind (·.zero)
def Mu(P:wq)(s:TypeId)(f:Nat):Option Field:=match P.underlying s with | wh (.struct fs)=>fs[f]? | _=>wj
def J0(P:wq)(t:TypeId):Option (Nat × TypeId):=match P.underlying t with | wh (.array n e)=>wh (n,e) | _=>wj
def FD(P:wq)(t:TypeId):Option TypeId:=match P.underlying t with | wh (.slice e)=>wh e | _=>wj
def Af(c:wm)(A B:Prop):Prop:=∃t:Bool,c=.bool t/\(t=wk->A)/\(t=wl->B)
def Aw(c a b:Option wm)(w:wn)(K:VK):Prop:=∃t:Bool,c=wh (.bool t)/\∃v,(cond t a b)=wh v/\K v w
def Ac(p:wm)(w:wn)(K:VK):Prop:=∃a v,p=.pointer (wh a)/\w.cell? a=wh v/\K v w
def Ak(n:Nat)(p:wm)(w:wn)(K:VK):Prop:=∃a cs,p=.pointer (wh a)/\FN w a 0 n=wh cs/\K (.agg cs.toArray) w
def Aj(n:Nat)(p x:wm)(w:wn)(K:wn->Prop):Prop:=∃a,p=.pointer (wh a)/\x.cells.size=n/\Ky x.cells.toList 0 a w K
def Aq(o:Obj)(w:wn)(K:VK):Prop:=K (.pointer (wh ⟨w.heap.size,0,wj⟩)) (w.alloc o)
def Ab(off:Nat)(p:wm)(w:wn)(K:VK):Prop:=∃a,p=.pointer (wh a)/\K (.pointer (wh (a.add off))) w
def LN:wm->Bool
 | .pointer wj | .nilIface | .nilFunc=>wl
 | .func (.method _) _ _=>wl
 | _=>wk
def Ae(p:wm)(w:wn)(K:VK):Prop:=LN p=wk/\K p w
def FK(op:BinOp)(k:IntKind)(a b:Int):Option wm:=
 match op with
 | .add=>wh (.int k (k.wrap (a+b)))
 | .sub=>wh (.int k (k.wrap (a-b)))
 | .mul=>wh (.int k (k.wrap (a*b)))
 | .eql=>wh (.bool (a == b))
 | .neq=>wh (.bool (a != b))
 | .lss=>wh (.bool (decide (a<b)))
 | .leq=>wh (.bool (decide (a<=b)))
 | .gtr=>wh (.bool (decide (a>b)))
 | .geq=>wh (.bool (decide (a≥b)))
 | _=>wj
def U(op:BinOp)(x y:wm)(w:wn)(K:VK):Prop:=∃k a b v,x=.int k a/\y=.int k b/\FK op k a b=wh v/\K v w
def AB(P:wq)(op:BinOp)(t:TypeId)(ox oy:Operand)(x y:wm)(w:wn)(K:VK):Prop:=
 ∃v,(do eqGuard op t ox oy x y;binOp op t x y:Sem wm).run P w=.ok v w/\K v w
def QS(P:wq)(t:TypeId):Bool:=match P.underlying t with | wh (.int _)=>wk | _=>wl
def Lg:BinOp->Bool
 | .add | .sub | .mul | .eql | .neq | .lss | .leq | .gtr | .geq=>wk
 | _=>wl
def Am(P:wq)(s:Sem wm)(w:wn)(K:VK):Prop:=∃v w',s.run P w=.ok v w'/\K v w'
def Bx(P:wq)(s:Sem Unit)(w:wn)(K:wn->Prop):Prop:=∃w',s.run P w=.ok () w'/\K w'
def A8(x:wm)(w:wn)(K:VK):Prop:=∃b,x=.bool b/\K (.bool !b) w
def Ao(i:Nat)(x:wm)(w:wn)(K:VK):Prop:=∃vs v,x=.tuple vs/\vs[i]?=wh v/\K v w
def I(P:wq)(f:FuncId)(args:Array wm)(w:wn)(K:VK):Prop:=Calls P f args w λe w'=>∃v,e=.returned v/\K v w'
def AC(n:Nat)(x i:wm)(w:wn)(K:VK):Prop:=
 ∃g len cap k j,x=.slice (wh g) len cap/\i=.int k j/\0<=j/\j<(len:Int)/\K (.pointer (wh (g.add (j.toNat*n)))) w
def AQ(ln n:Nat)(x i:wm)(w:wn)(K:VK):Prop:=
 ∃g k j,x=.pointer (wh g)/\i=.int k j/\0<=j/\j<(ln:Int)/\K (.pointer (wh (g.add (j.toNat*n)))) w
def AD(x:wm)(w:wn)(K:VK):Prop:=∃g n c,x=.slice g n c/\K (.int .i64 (n:Int)) w
def AZ(k:IntKind)(x:wm)(w:wn)(K:VK):Prop:=∃k' a,x=.int k' a/\K (.int k (k.wrap a)) w
def DK(P : wq)(f : FuncId) : Bool := match P.funcs[f]? with | wh fn => fn.body.isSome && !(fn.name == "runtime.NumGoroutine") | wj => wl
def EZ:List (Option wm)->Option (List wm)
 | []=>wh []
 | none::_=>none
 | some v::r=>(EZ r).map (v::·)
def Bh(P:wq)(l:Nat)(args:Array wm)(w:wn)(K:VK):Prop:=YieldAt Fence.wide 0 P l args w λe w'=>∃v,e=.returned v/\K v w'
def Du(P:wq)(f:wm)(args:List wm)(w:wn)(K:VK):Prop:=
 match f with
 | .func (.func f) first captured=>cond (DK P f) (I P f (first.toList++(args++captured.toList)).toArray w K) False
 | .func (.yield l) first _=>cond (Nat.beq first.size 0) (Bh P l args.toArray w K) False
 | _=>False
def Ir(P:wq)(b:Builtin)(at_:Array TypeId)(ty:TypeId)(vs:List wm)(w:wn)(K:VK):Prop:=
 match b with
 | .len=>match (at_[0]?).bind (FD P),vs with
  | some _,[x]=>AD x w K
  | _,_=>Am P (Builtin.len_ at_ ty vs.toArray) w K
 | .append=>Am P (Builtin.append_ at_ ty vs.toArray) w K
 | .copy=>Am P (Builtin.copy_ at_ ty vs.toArray) w K
 | .min=>Am P (Builtin.min_ at_ ty vs.toArray) w K
 | .max=>Am P (Builtin.max_ at_ ty vs.toArray) w K
 | .cap=>Am P (Builtin.cap_ at_ ty vs.toArray) w K
 | .delete=>Am P (Builtin.delete_ at_ ty vs.toArray) w K
 | .clear=>Am P (Builtin.clear_ at_ ty vs.toArray) w K
 | _=>False
def Lo(P:wq)(o:Oper)(ρ : Operand->Option wm)(w:wn)(K:VK):Prop:=
 match o.op with
 | .move x | .assign x=>match ρ x with | wh v=>K v w | wj=>False
 | .pick c a b=>Aw (ρ c) (ρ a) (ρ b) w K
 | .alloc t=>match Mj P t with | wh z=>Aq (.cells z.cells t) w K | wj=>False
 | .box t x=>match ρ x with | wh v=>Aq (.cells v.cells t) w K | wj=>False
 | .load t x=>match ρ x,Lz P t,Hq P t with
  | some p,some wk,some n=>Ak n p w K
  | some p,some wl,_=>Ac p w K
  | _,_,_=>False
 | .store t x y=>match ρ x, ρ y,Hq P t with
  | some p,some v,some n=>Aj n p v w (K undef)
  | _,_,_=>False
 | .nilCheck x=>match ρ x with | wh p=>Ae p w K | wj=>False
 | .binOp op t x y _=>match ρ x, ρ y with
  | some a,some b=>cond (QS P t && Lg op) (U op a b w K) (AB P op t x y a b w K)
  | _,_=>False
 | .unOp .not _ x=>match ρ x with | wh a=>A8 a w K | wj=>False
 | .unOp op _ x=>match ρ x with | wh a=>Am P (Op.unary op a) w K | wj=>False
 | .convert s t x=>match ρ x with
  | some a=>match P.underlying s,P.underlying t with
   | some (.int _),some (.int k)=>AZ k a w K
   | _,_=>Am P (convert s t a) w K
  | none=>False
 | .fieldAddr s x f=>match ρ x,Mu P s f with
  | some p,some fl=>match Hq P fl.type with
   | some (_+1)=>Ab fl.offset p w K
   | _=>False
  | _,_=>False
 | .indexAddr t x i=>match ρ x, ρ i,FD P t with
  | some a,some b,some e=>match Hq P e with
   | some n=>AC n a b w K
   | none=>False
  | some a,some b,wj=>match J0 P t with
   | some (ln,e)=>match Hq P e with
    | some n=>AQ ln n a b w K
    | none=>False
   | none=>False
  | _,_,_=>False
 | .extract x i=>match ρ x with | wh a=>Ao i a w K | wj=>False
 | .makeFunc fn first captured=>match EZ (first.toList.map ρ),EZ (captured.toList.map ρ) with
  | some l,some m=>K (.func fn l.toArray m.toArray) w
  | _,_=>False
 | .build t parts=>match EZ (parts.toList.map λp => ρ p.2) with
  | some vs=>Am P (Instr.build t ((parts.toList.map (·.1)).zip vs).toArray) w K
  | none=>False
 | .buildSlice t n parts=>match EZ (parts.toList.map λp => ρ p.2) with
  | some vs=>Am P (Instr.buildSlice t n ((parts.toList.map (·.1)).zip vs).toArray) w K
  | none=>False
 | .makeSlice t l c=>match ρ l, ρ c with | wh a,wh b=>Am P (Instr.makeSlice t a b) w K | _,_=>False
 | .makeMap t wj=>Am P (Instr.makeMap t wj) w K
 | .makeInterface t x=>match ρ x with | wh a=>Am P (Instr.makeInterface t a) w K | wj=>False
 | .slice t x lo hi wj=>match ρ x,lo.map ρ,hi.map ρ with
  | some _,some wj,_=>False
  | some _,_,some wj=>False
  | some a,l,h=>Am P (Instr.sliceAt t a (l.bind id) (h.bind id) wj) w K
  | none,_,_=>False
 | .slice t x (wh lo) (wh hi) (wh mx)=>match ρ x, ρ lo, ρ hi, ρ mx with
  | some a,some l,some h,some m=>Am P (Instr.sliceAt t a (some l) (some h) (some m)) w K
  | _,_,_,_=>False
 | .field t x f=>match ρ x with | wh a=>Am P (Instr.field t a f) w K | wj=>False
 | .index t x i=>match ρ x, ρ i with | wh a,wh b=>Am P (Instr.index t a b) w K | _,_=>False
 | .lookup t x i ok=>match ρ x, ρ i with | wh a,wh b=>Am P (Instr.lookup t a b ok) w K | _,_=>False
 | .mapUpdate t m k x=>match ρ m, ρ k, ρ x with | wh a,wh b,wh c=>Bx P (Instr.mapUpdate t a b c) w (K undef) | _,_,_=>False
 | .range t x=>match ρ x with | wh a=>Am P (Instr.range t a) w K | wj=>False
 | .next it s=>match ρ it with | wh a=>Am P (Instr.next a s o.type) w K | wj=>False
 | .entry it=>match ρ it with | wh a=>Am P (Instr.entry a) w K | wj=>False
 | .call c=>match EZ (c.args.toList.map ρ) with
  | none=>False
  | some vs=>match c.callee with
   | .value f=>match ρ f with | wh fv=>Du P fv vs w K | wj=>False
   | .builtin b=>Ir P b c.argTypes o.type vs w K
   | _=>False
 | _=>False
def EF(ρ : Operand->wm)(o:Oper):Bool:=match o.op with
 | .call { callee := .value f, .. }=>match ρ f with
  | .func (.yield _) _ _=>wk
  | _=>wl
 | _=>wl
def Jt(P:wq)(o:Oper)(a:Act)(w:wn)(K:VK):Prop:=
 (∃v w',(execOp a.eval o).run P w=.ok (.value v) w'/\K v w')∨
 (∃w',(execOp a.eval o).run P w=.ok .skip w'/\K undef w')∨
 (∃f args,(execOp a.eval o).run P w=.ok (.enter f args) w/\I P f args w K)∨
 (EF a.eval o=wk/\∃l f tmps as bd,(execOp a.eval o).run P w=.ok (.round l f tmps as bd) w/\RoundIn Fence.wide 0 P l f tmps as bd w λe w'=>∃v,e=.returned v/\K v w')
def Qb(o:Oper):Prop:=∀c,o.op ≠ .defer c
def Fc(r:Option Nat):Fence:={ Fence.wide with round:=r }
def Jt.wp{P:wq}{o:Oper}{a:Act}{w:wn}{K:VK}{Q:Exit->Act->wn->Prop}{K':Act->wn->Prop}(hc:EF a.eval o=wl)(h:Jt P o a w K)(hk:∀v w',K v w'->K' (a.put o.dst v) w'):o.wp P a w K' Q:=by
 unfold Oper.wp;rcases h with⟨v,w',hr,h⟩|⟨w',hr,h⟩|⟨f,args,hr,h⟩|⟨hn,_⟩
 ·rw[hr];exact hk _ _ h
 ·rw[hr];exact hk _ _ h
 ·rw[hr];refine h.mono ?_;rintro e w' ⟨v,rfl,h⟩;exact hk _ _ h
 ·rw[hc]at hn;cases hn
def Jt.wpIn{P:wq}{r:Option Nat}{o:Oper}{a:Act}{w:wn}{K:VK}{Q:Exit->Act->wn->Prop}{K':Act->wn->Prop}(hd:Qb o)(h:Jt P o a w K)(hk:∀v w',K v w'->K' (a.put o.dst v) w'):o.wpIn (Fc r) 0 P a w K' Q:=by
 refine⟨λ_ _=>trivial,?_⟩;have hs:o.semAt (Fc r).round a.eval=execOp a.eval o:=by
  cases r with
  | none=>rfl
  | some l=>exact Oper.semAt_some l _ o hd
 rw[hs];rcases h with⟨v,w',hr,h⟩|⟨w',hr,h⟩|⟨f,args,hr,h⟩|⟨_,l,f,tmps,as,bd,hr,h⟩
 ·rw[hr];exact hk _ _ h
 ·rw[hr];exact hk _ _ h
 ·rw[hr];refine⟨λh=>by simp[Fc,Fence.wide]at h,?_⟩;have h':CallsIn Fence.wide 0 P f args w λe w'=>∃v,e=.returned v/\K v w':=callsIn_wide.2 h;have h'':CallsIn (Fc r) 0 P f args w λe w'=>∃v,e=.returned v/\K v w':=h';refine h''.mono ?_;rintro e w' ⟨v,rfl,h⟩;exact hk _ _ h
 ·rw[hr];refine⟨λh=>by simp[Fc,Fence.wide]at h,?_⟩;have h'':RoundIn (Fc r) 0 P l f tmps as bd w λe w'=>∃v,e=.returned v/\K v w':=h;refine h''.mono ?_;rintro e w' ⟨v,rfl,h⟩;exact hk _ _ h
theorem F0{ρ : Operand->Option wm}{f:Operand->wm}(hρ : ∀x v, ρ x=wh v->f x=v):∀(l:List Operand) (vs:List wm),EZ (l.map ρ)=wh vs->l.map f=vs
 | [],vs,h=>by simp[EZ]at h;simp[h]
 | x::l,vs,h=>by
  simp only[uw]at h;cases hx : ρ x with
  | none=>simp[hx,EZ]at h
  | some v=>
   simp only[hx,EZ,yD]at h;obtain⟨r,hr,rfl⟩:=h;simp[hρ x v hx,F0 hρ l r hr]
theorem GQ(P:wq)(w:wn)(a:Addr):∀(n i:Nat) (acc:Array wm) (cs:List wm),FN w a i n=wh cs->
  (loadCellsFrom a i n acc).run P w=.ok (acc++cs.toArray) w
 | 0,i,acc,cs,h=>by simp[FN]at h;subst h;simp[loadCellsFrom]
 | n+1,i,acc,cs,h=>by
  simp only[FN]at h;split at h
  ·rename_i v r h1 h2;simp only[zS]at h;subst h;simp only[loadCellsFrom,vf,run_load,h1,zT];rw[GQ P w a n (i+1) _ r h2];simp
  ·cases h
theorem KL(P:wq):∀(l:List wm) (i:Nat) (a:Addr) (w:wn) (K:wn->Prop),Ky l i a w K->
  ∃w',(storeCells a l i).run P w=.ok () w'/\K w'
 | [],i,a,w,K,h=>⟨w,by simp[storeCells],h⟩
 | v::l,i,a,w,K,h=>by
  obtain⟨h1,⟨u,h2⟩,h3,h4⟩:=h;obtain⟨w',hr,hk⟩:=KL P l (i+1) a _ K h4;refine⟨w',?_,hk⟩;simp only[storeCells,vf,run_store P w (a.add i) v _ h1,h2,h3];simpa using hr
section
variable{P:wq}{w:wn}{t:TypeId}
def DF{n:Nat}(h:Hq P t=wh n):(sizeOf t).run P w=.ok n w:=by simp only[Hq,yD]at h;obtain⟨i,hi,rfl⟩:=h;simp[sizeOf,typeInfo,hi]
def LY{z:wm}(h:Mj P t=wh z):(zeroValue t).run P w=.ok z w:=by simp only[Mj,Option.bind_eq_some_iff]at h;obtain⟨i,hi,hz⟩:=h;simp[zeroValue,typeInfo,hi,hz]
def Gf{b:Bool}(h:Lz P t=wh b):(isAgg t).run P w=.ok b w:=by simp only[Lz,yD]at h;obtain⟨d,hd,rfl⟩:=h;cases d<;>simp[isAgg,underlying,hd]
def Cx(op:BinOp)(ox oy:Operand)(k k':IntKind)(a b:Int):(eqGuard op t ox oy (.int k a) (.int k' b)).run P w=.ok () w:=by unfold eqGuard;cases op<;>simp
def Jr{op:BinOp}{k:IntKind}{a b:Int}{v:wm}(h:FK op k a b=wh v):(binOp op t (.int k a) (.int k b)).run P w=.ok v w:=by
 cases op<;>simp only[FK,zS]at h<;>first | cases h | skip
 all_goals (first | subst h | skip)
 all_goals simp[binOp,Op.intArith,Op.intCmp]
end
theorem GO{ρ : Operand->Option wm}{f:Operand->wm}(hρ : ∀x v, ρ x=wh v->f x=v):∀(l:List (Nat × Operand)) (vs:List wm),EZ (l.map λp => ρ p.2)=wh vs->
  l.map (λp=>(p.1,f p.2))=(l.map (·.1)).zip vs
 | [],vs,h=>by simp[EZ]at h;subst h;rfl
 | x::l,vs,h=>by
  simp only[uw]at h;cases hx : ρ x.2 with
  | none=>simp[hx,EZ]at h
  | some v=>
   simp only[hx,EZ,yD]at h;obtain⟨r,hr,rfl⟩:=h;simp[hρ _ _ hx,GO hρ l r hr]
def Nu{P:wq}{b:Builtin}{at_:Array TypeId}{ty:TypeId}{consts:Array Bool}{vs:List wm}{w:wn}{K:VK}(h:Ir P b at_ ty vs w K):
  ∃v w',(builtin b at_ ty consts vs.toArray).run P w=.ok (.value v) w'/\K v w':=by
 cases b<;>simp only[Ir]at h<;>try exact h.elim
 case len=>
  split at h
  ·rename_i e x he;obtain⟨g,n,c,rfl,hk⟩:=h;refine⟨_,w,?_,hk⟩;simp only[Option.bind_eq_some_iff]at he;obtain⟨t,h0,he⟩:=he;have hs:P.underlying t=wh (.slice e):=by
    unfold FD at he;split at he
    ·cases he;assumption
    ·cases he
   simp[builtin,Builtin.len_,h0,underlying,hs,goInt]
  ·obtain⟨v,w',hr,hk⟩:=h;exact⟨v,w',by simp only[builtin,vf,hr];rfl,hk⟩
 all_goals
  obtain⟨v,w',hr,hk⟩:=h;exact⟨v,w',by simp only[builtin,vf,hr];rfl,hk⟩
def Jn{P:wq}{o:Oper}{ρ : Operand->Option wm}{a:Act}{w:wn}{K:VK}(hρ : ∀x v, ρ x=wh v->a.eval x=v)(h:Lo P o ρ w K):Jt P o a w K:=by
 obtain⟨dst,op,type,pos,after,guard⟩:=o;cases op<;>simp only[Lo]at h<;>try exact h.elim
 case move x=>
  split at h
  ·rename_i v hv;exact .inl ⟨v,w,by simp[execOp,hρ x v hv],h⟩
  ·exact h.elim
 case assign x=>
  split at h
  ·rename_i v hv;exact .inl ⟨v,w,by simp[execOp,hρ x v hv],h⟩
  ·exact h.elim
 case pick c x y=>
  obtain⟨t,hc,v,hv,hk⟩:=h;refine .inl ⟨v,w,?_,hk⟩;have hc':=hρ c _ hc;cases t with
  | true=>have:=hρ x _ hv;simp[execOp,hc',asBool,this]
  | false=>have:=hρ y _ hv;simp[execOp,hc',asBool,this]
 case alloc t=>
  split at h
  ·rename_i z hz;exact .inl ⟨_,_,by simp[execOp,Instr.alloc,LY hz,newVar,newRow],h⟩
  ·exact h.elim
 case box t x=>
  split at h
  ·rename_i v hv;exact .inl ⟨_,_,by simp[execOp,Instr.box,hρ x v hv,newVar,newRow],h⟩
  ·exact h.elim
 case build t parts=>
  split at h
  ·rename_i vs hvs;obtain⟨v,w',hr,hk⟩:=h;refine .inl ⟨v,w',?_,hk⟩;have:=GO hρ _ _ hvs;have hp:(parts.map λ(i,x)=>(i,a.eval x))=((parts.toList.map (·.1)).zip vs).toArray:=by rw[<-this];apply vn ;simp
   simp only[execOp,hp,vf,hr];rfl
  ·exact h.elim
 case buildSlice t n parts=>
  split at h
  ·rename_i vs hvs;obtain⟨v,w',hr,hk⟩:=h;refine .inl ⟨v,w',?_,hk⟩;have:=GO hρ _ _ hvs;have hp:(parts.map λ(i,x)=>(i,a.eval x))=((parts.toList.map (·.1)).zip vs).toArray:=by rw[<-this];apply vn ;simp
   simp only[execOp,hp,vf,hr];rfl
  ·exact h.elim
 case load t x=>
  split at h
  ·rename_i p n hp hag hn;obtain⟨ad,cs,rfl,hc,hk⟩:=h;refine .inl ⟨_,w,?_,hk⟩;simp[execOp,Instr.loadAt,Instr.sureAddr,hρ x _ hp,loadVar,Gf hag,DF hn,loadCells,GQ P w ad n 0 #[] cs hc]
  ·rename_i p q hp hag;obtain⟨ad,v,rfl,hc,hk⟩:=h;refine .inl ⟨v,w,?_,hk⟩;simp[execOp,Instr.loadAt,Instr.sureAddr,hρ x _ hp,loadVar,Gf hag,hc]
  ·exact h.elim
 case store t x y=>
  split at h
  ·rename_i p v n hp hv hn;obtain⟨ad,rfl,hs,hk⟩:=h;obtain⟨w',hr,hk'⟩:=KL P _ _ _ _ _ hk;refine .inr (.inl ⟨w',?_,hk'⟩);simp[execOp,Instr.storeAt,Instr.sureAddr,hρ x _ hp,hρ y _ hv,storeVar,DF hn,hs,hr]
  ·exact h.elim
 case nilCheck x=>
  split at h
  ·rename_i p hp;obtain⟨hn,hk⟩:=h;refine .inl ⟨p,w,?_,hk⟩;have hx:=hρ x _ hp;cases p<;>simp_all [execOp,LN]
   case pointer ad=>cases ad<;>simp_all
   case func fn _ _=>cases fn<;>simp_all
  ·exact h.elim
 case binOp op t x y yt=>
  split at h
  ·rename_i u v hu hv;have e1:=hρ x _ hu;have e2:=hρ y _ hv;cases hb:(QS P t && Lg op) with
   | true=>
    rw[hb]at h;obtain⟨k,m,n,r,rfl,rfl,hr,hk⟩:=h;refine .inl ⟨r,w,?_,hk⟩;simp[execOp,e1,e2,Cx,Jr hr]
   | false=>
    rw[hb]at h;obtain⟨r,hr,hk⟩:=h;refine .inl ⟨r,w,?_,hk⟩;simp only[execOp,e1,e2];simp only[vf]at hr ⊢;rw[hr];rfl
  ·exact h.elim
 case unOp op t x=>
  cases op with
  | not=>
   simp only at h;split at h
   ·rename_i u hu;obtain⟨b,rfl,hk⟩:=h;exact .inl ⟨_,w,by simp[execOp,hρ x _ hu,Op.unary],hk⟩
   ·exact h.elim
  | _=>
   simp only at h;split at h
   ·rename_i u hu;obtain⟨v,w',hr,hk⟩:=h;exact .inl ⟨v,w',by simp only[execOp,hρ x _ hu,vf,hr];rfl,hk⟩
   ·exact h.elim
 case convert s t x=>
  split at h
  ·rename_i u hu;split at h
   ·rename_i k hs ht;obtain⟨k',n,rfl,hk⟩:=h;refine .inl ⟨_,w,?_,hk⟩;simp[execOp,hρ x _ hu,convert,underlying,hs,ht,Conv.intToInt]
   ·obtain⟨v,w',hr,hk⟩:=h;exact .inl ⟨v,w',by simp only[execOp,hρ x _ hu,vf,hr];rfl,hk⟩
  ·exact h.elim
 case makeInterface t x=>
  split at h
  ·rename_i u hu;obtain⟨v,w',hr,hk⟩:=h;exact .inl ⟨v,w',by simp only[execOp,hρ x _ hu,vf,hr];rfl,hk⟩
  ·exact h.elim
 case makeFunc fn first captured=>
  split at h
  ·rename_i l m hl hm;refine .inl ⟨_,w,?_,h⟩;have h1:=F0 hρ _ _ hl;have h2:=F0 hρ _ _ hm;have h1':first.map a.eval=l.toArray:=by rw[<-h1];apply vn;simp
   have h2':captured.map a.eval=m.toArray:=by rw[<-h2];apply vn;simp
   simp[execOp,Instr.makeFunc,h1',h2']
  ·exact h.elim
 case makeMap t r=>
  cases r with
  | none=>
   obtain⟨v,w',hr,hk⟩:=h;exact .inl ⟨v,w',by simp only[execOp,Option.map_none,vf,hr];rfl,hk⟩
  | some _=>exact h.elim
 case makeSlice t l c=>
  split at h
  ·rename_i u u' hu hu';obtain⟨v,w',hr,hk⟩:=h;exact .inl ⟨v,w',by simp only[execOp,hρ l _ hu,hρ c _ hu',vf,hr];rfl,hk⟩
  ·exact h.elim
 case slice t x lo hi mx=>
  cases mx with
  | some mx=>
   cases lo with
   | none=>exact h.elim
   | some lo=>
    cases hi with
    | none=>exact h.elim
    | some hi=>
     simp only at h;split at h
     ·rename_i u l r m hu h1 h2 h3;obtain⟨v,w',hr,hk⟩:=h;exact .inl ⟨v,w',by simp only[execOp,hρ x _ hu,o9,hρ lo _ h1,hρ hi _ h2,hρ mx _ h3,vf,hr];rfl,hk⟩
     ·exact h.elim
  | none=>
   simp only at h;have hlo:∀l,lo.map ρ = l->l≠wh wj->lo.map a.eval=l.bind id:=by
    intro l hl hne;cases lo with
    | none=>simp at hl;subst hl;rfl
    | some q=>
     simp at hl;subst hl;cases hq : ρ q with
     | none=>simp[hq]at hne
     | some z=>simp[hρ q z hq]
   have hhi:∀l,hi.map ρ = l->l≠wh wj->hi.map a.eval=l.bind id:=by
    intro l hl hne;cases hi with
    | none=>simp at hl;subst hl;rfl
    | some q=>
     simp at hl;subst hl;cases hq : ρ q with
     | none=>simp[hq]at hne
     | some z=>simp[hρ q z hq]
   split at h
   ·exact h.elim
   ·exact h.elim
   ·rename_i u l r hu h1 h2;obtain⟨v,w',hr,hk⟩:=h;refine .inl ⟨v,w',?_,hk⟩;have e1:=hlo _ rfl (by assumption);have e2:=hhi _ rfl (by assumption);simp only[execOp,hρ x _ hu,e1,e2,Option.map_none,vf,hr];rfl
   ·exact h.elim
 case fieldAddr s x f=>
  split at h
  ·rename_i p fl hp hf;split at h
   ·rename_i n hn;obtain⟨ad,rfl,hk⟩:=h;refine .inl ⟨_,w,?_,hk⟩;have hs:∃fs,P.underlying s=wh (.struct fs)/\fs[f]?=wh fl:=by
     unfold Mu at hf;split at hf
     ·exact⟨_, ‹_›,hf⟩
     ·cases hf
    obtain⟨fs,hs,hfs⟩:=hs;simp[execOp,Instr.fieldAt,underlying,hs,hfs,Instr.sureAddr,hρ x _ hp,fieldPlace,DF hn]
   ·exact h.elim
  ·exact h.elim
 case field t x f=>
  split at h
  ·rename_i u hu;obtain⟨v,w',hr,hk⟩:=h;exact .inl ⟨v,w',by simp only[execOp,hρ x _ hu,vf,hr];rfl,hk⟩
  ·exact h.elim
 case indexAddr t x i=>
  split at h
  ·rename_i u u' e hu hu' he;split at h
   ·rename_i n hn;obtain⟨g,len,cap,k,j,rfl,rfl,h0,h1,hk⟩:=h;refine .inl ⟨_,w,?_,hk⟩;have hs:P.underlying t=wh (.slice e):=by
     unfold FD at he;split at he
     ·cases he;assumption
     ·cases he
    simp[execOp,Instr.indexAt,asIntOf,underlying,hs,hρ x _ hu,hρ i _ hu',h0,h1,DF hn]
   ·exact h.elim
  ·rename_i u u' hu hu' he;split at h
   ·rename_i ln e ha;split at h
    ·rename_i n hn;obtain⟨g,k,j,rfl,rfl,h0,h1,hk⟩:=h;refine .inl ⟨_,w,?_,hk⟩;have hs:P.underlying t=wh (.array ln e):=by
      unfold J0 at ha;split at ha
      ·cases ha;assumption
      ·cases ha
     simp[execOp,Instr.indexAt,asIntOf,Instr.sureAddr,underlying,hs,hρ x _ hu,hρ i _ hu',h0,h1,DF hn]
    ·exact h.elim
   ·exact h.elim
  ·exact h.elim
 case index t x i=>
  split at h
  ·rename_i u u' hu hu';obtain⟨v,w',hr,hk⟩:=h;exact .inl ⟨v,w',by simp only[execOp,hρ x _ hu,hρ i _ hu',vf,hr];rfl,hk⟩
  ·exact h.elim
 case lookup t x i ok=>
  split at h
  ·rename_i u u' hu hu';obtain⟨v,w',hr,hk⟩:=h;exact .inl ⟨v,w',by simp only[execOp,hρ x _ hu,hρ i _ hu',vf,hr];rfl,hk⟩
  ·exact h.elim
 case mapUpdate t m k x=>
  split at h
  ·rename_i u u' u'' hu hu' hu'';obtain⟨w',hr,hk⟩:=h;exact .inr (.inl ⟨w',by simp only[execOp,hρ m _ hu,hρ k _ hu',hρ x _ hu'',vf,hr];rfl,hk⟩)
  ·exact h.elim
 case range t x=>
  split at h
  ·rename_i u hu;obtain⟨v,w',hr,hk⟩:=h;exact .inl ⟨v,w',by simp only[execOp,hρ x _ hu,vf,hr];rfl,hk⟩
  ·exact h.elim
 case next it s=>
  split at h
  ·rename_i u hu;obtain⟨v,w',hr,hk⟩:=h;exact .inl ⟨v,w',by simp only[execOp,hρ it _ hu,vf,hr];rfl,hk⟩
  ·exact h.elim
 case entry it=>
  split at h
  ·rename_i u hu;obtain⟨v,w',hr,hk⟩:=h;exact .inl ⟨v,w',by simp only[execOp,hρ it _ hu,vf,hr];rfl,hk⟩
  ·exact h.elim
 case extract x i=>
  split at h
  ·rename_i u hu;obtain⟨vs,v,rfl,hv,hk⟩:=h;exact .inl ⟨v,w,by simp[execOp,Instr.extract,hρ x _ hu,hv],hk⟩
  ·exact h.elim
 case call c=>
  obtain⟨callee,args,argTypes⟩:=c;simp only at h;cases hvs:EZ (args.toList.map ρ) with
  | none=>rw[hvs]at h;exact h.elim
  | some vs=>
   rw[hvs]at h;have hargs:=F0 hρ _ _ hvs;have hargs':args.map a.eval=vs.toArray:=by rw[<-hargs];apply vn;simp
   cases callee with
   | value f=>
    simp only at h;split at h
    ·rename_i fv hf;unfold Du at h;split at h
     ·rename_i f' first captured
      cases hb:DK P f' with
      | false=>rw[hb]at h;exact h.elim
      | true=>
       rw[hb]at h;refine .inr (.inr (.inl ⟨f',_,?_,h⟩));unfold DK at hb;split at hb
       ·rename_i fn hfn;simp only[zY,zJ]at hb;obtain⟨hb1,hb2⟩:=hb;have hb3:fn.body.isNone=wl:=by cases hq:fn.body<;>simp_all
        have ha:(first++vs.toArray)++captured=(first.toList++(vs++captured.toList)).toArray:=by apply vn;simp
        simp only[execOp,resolve,Deferred.ofValue,hρ f _ hf,hargs',invoke,callFunc,vf,vg,zT,run_program,hfn,hb2,hb3,yZ,vq,ha]
       ·cases hb
     ·rename_i l first captured
      cases hb:Nat.beq first.size 0 with
      | false=>rw[hb]at h;exact h.elim
      | true=>
      rw[hb]at h;have hfe:first = #[]:=Array.eq_empty_of_size_eq_zero (yM hb)
      subst hfe;obtain⟨fn,tmps,as,bd,hy,hr⟩:=h;have hcalm:EF a.eval { dst:=dst,op := .call { callee := .value f,args:=args,argTypes:=argTypes },type:=type,pos:=pos,after:=after,guard:=guard }=wk:=by simp only[EF,hρ f _ hf]
      refine .inr (.inr (.inr ⟨hcalm,l,fn,tmps,as,bd,?_,hr⟩));simp only[execOp,resolve,Deferred.ofValue,hρ f _ hf,hargs',invoke,vf,vg,zT,Array.empty_append];exact hy
     ·exact h.elim
    ·exact h.elim
   | builtin b=>
    obtain⟨v,w',hr,hk⟩:=Nu (consts:=args.map fun|.const _=>wk|_=>wl) h;refine .inl ⟨v,w',?_,hk⟩;simp only[execOp,resolve,hargs',invoke,vf,vg,zT];exact hr
   | invoke r m=>exact h.elim
def Ka{P:wq}{o:Oper}{ρ : Operand->Option wm}{w:wn}{K:VK}(h:Lo P o ρ w K):Qb o:=by obtain⟨dst,op,type,pos,after,guard⟩:=o;intro c hc;simp only at hc;subst hc;exact h
abbrev EK:=C1->wn->Prop
def putE(dst:Option Tmp)(v:wm)(env:C1):C1:=match dst with | wh d=>(d,v)::env | wj=>env
def Bk(want:Bool)(v:wm)(A B:Prop):Prop:=(v=.bool want->A)/\(v ≠ .bool want->B)
def Aa(want:Bool)(v:wm)(F:VK->Prop)(w:wn)(K:VK):Prop:=Bk want v (F K) (K undef w)
def Kx(ops:Array Oper)(o:Oper)(env:C1)(F:VK->Prop)(w:wn)(K:VK):Prop:=
 match o.guard with
 | none=>F K
 | some (j,want)=>match (ops[j]?).bind (·.dst) with
  | some t=>match Hs env t with
   | some v=>Aa want v F w K
   | none=>False
  | none=>False
def IH(P:wq)(ops:Array Oper)(o:Oper)(env:C1)(w:wn)(K:EK):Prop:=
 Kx ops o env (λK=>Lo P o (ev env) w K) w (λv w'=>K (putE o.dst v env) w')
def OU(P:wq)(ops:Array Oper):List Oper->C1->wn->EK->Prop
 | [],env,w,K=>K env w
 | o::l,env,w,K=>IH P ops o env w λenv' w'=>OU P ops l env' w' K
def Kh(n:Nat)(ops:List Oper):Bool:=ops.all λo=>match o.dst with | wh d=>Nat.blt d n && !(Nat.beq d Es) | wj=>wk
def EP(n:Nat)(Q:Exit->C1->wn->Prop):Exit->Act->wn->Prop
 | .panic _,_,_=>False
 | .outgrown,_,_=>False
 | e,a,w=>∃env,Df n env a/\Q e env w
def L9(n:Nat)(o:Oper):Prop:=∀d,o.dst=wh d->d<n/\d≠Es
def Df.putE{n:Nat}{env:C1}{a:Act}(h:Df n env a){o:Oper}(hd:L9 n o)(v:wm):Df n (putE o.dst v env) (a.put o.dst v):=by
 cases hq:o.dst with
 | none=>exact h
 | some d=>exact h.put v (hd d hq).1 (hd d hq).2
def Df.yielded{n:Nat}{env:C1}{a:Act}(h:Df n env a){ops:Array Oper}{j t:Nat}{v:wm}(hj:(ops[j]?).bind (·.dst)=wh t)(hv:Hs env t=wh v)(want:Bool):
  (Go.yielded ops a.tmps j == wh want)=wk↔v=.bool want:=by unfold Go.yielded;rw[hj];simp only[Option.bind_some,h.has t v hv];cases v<;>simp
def Iu{n:Nat}{env:C1}{a:Act}(h:Df n env a){ops:Array Oper}{o:Oper}{F:VK->Prop}{w:wn}{K:VK}(hv:Kx ops o env F w K):
  (Region.wanted o (yielded ops a.tmps)=wk/\F K)∨(Region.wanted o (yielded ops a.tmps)=wl/\K undef w):=by
 unfold Kx at hv;cases hg:o.guard with
 | none=>rw[hg]at hv;exact .inl ⟨by simp[Region.wanted,hg],hv⟩
 | some g=>
  obtain⟨j,want⟩:=g;rw[hg]at hv;simp only at hv;split at hv
  ·rename_i t ht;split at hv
   ·rename_i v hl;have hy:=h.yielded ht hl want;by_cases hb:v=.bool want
    ·exact .inl ⟨by simp[Region.wanted,hg];simpa using hy.2 hb,hv.1 hb⟩
    ·refine .inr ⟨?_,hv.2 hb⟩;have:¬(Go.yielded ops a.tmps j == wh want)=wk:=λe=>hb (hy.1 e);simpa[Region.wanted,hg] using this
   ·exact hv.elim
  ·exact hv.elim
theorem HR{P:wq}{r:Option Nat}{n:Nat}{ops:Array Oper}{Q:Exit->C1->wn->Prop}:∀(l:List Oper) (env:C1) (a:Act) (w:wn),(∀o∈l,L9 n o)->Df n env a->
  OU P ops l env w (λenv' w'=>Q .normal env' w')->wpListIn (Fc r) 0 P ops (EP n Q) l a w
 | [],env,a,w,_,he,h=>⟨env,he,h⟩
 | o::l,env,a,w,hd,he,h=>by
  unfold wpListIn;have hd0:=hd o (by simp);rcases Iu he h with⟨hw,h1⟩|⟨hw,h1⟩
  ·rw[vy hw];refine Jt.wpIn (Ka h1) (Jn (λx v hv=>he.eval hv) h1) ?_;intro v w' hk;exact HR l _ _ _ (λo' ho'=>hd o' (by simp[ho'])) (he.putE hd0 v) hk
  ·rw[vx (by simp[hw])];exact⟨λ_ _=>trivial,HR l _ _ _ (λo' ho'=>hd o' (by simp[ho'])) (he.putE hd0 undef) h1⟩
def IQ{n:Nat}{l:List Oper}(h:Kh n l=wk):∀o∈l,L9 n o:=by intro o ho d hd;unfold Kh at h;rw[zZ]at h;have:=h o ho;rw[hd]at this;simp only[zY,zJ]at this;exact⟨by simpa[Nat.blt_eq] using this.1,yC this.2⟩
inductive Plan where
 | fin
 | take (i:Nat) (p:Plan)
 | go (i:Nat) (p rest:Plan)
 deriving Inhabited
def Dc(ops:Array Oper):Plan->Option (List Nat)->Array Bool->Bool
 | .fin,wj,listed=>(Region.ready .any ops listed).isEmpty
 | .fin,wh rs,_=>rs.isEmpty
 | .take i p,wj,listed=>(Region.ready .any ops listed).contains i && Region.free .any ops listed i && Dc ops p wj (listed.setIfInBounds i wk)
 | .take _ _,wh _,_=>wl
 | .go i p q,wj,listed=>match Region.ready .any ops listed with
  | j::rs=>Nat.beq j i && Dc ops p wj (listed.setIfInBounds i wk) && Dc ops q (wh rs) listed
  | []=>wl
 | .go i p q,wh (j::rs),listed=>Nat.beq j i && Dc ops p wj (listed.setIfInBounds i wk) && Dc ops q (wh rs) listed
 | .go _ _ _,wh [],_=>wl
def Iv(P:wq)(o:Oper):Bool:=
 match o.op with
 | .move _ | .assign _ | .pick .. | .nilCheck _ | .fieldAddr .. | .indexAddr .. | .extract .. | .makeFunc .. => wk
 | .binOp op t _ _ _=>QS P t && Lg op
 | .unOp .not _ _=>wk
 | .convert s t _=>match P.underlying s,P.underlying t with | wh (.int _),wh (.int _)=>wk | _,_=>wl
 | .call { callee := .builtin .len,args,argTypes }=>((argTypes[0]?).bind (FD P)).isSome && Nat.beq args.size 1
 | _=>wl
def An(S:wn->Prop)(p:wm)(w:wn)(K:VK):Prop:=∃a v,p=.pointer (wh a)/\(∀w',S w'->w'.cell? a=wh v)/\K v w
def AM(S:wn->Prop)(n:Nat)(p:wm)(w:wn)(K:VK):Prop:=∃a cs,p=.pointer (wh a)/\(∀w',S w'->FN w' a 0 n=wh cs)/\K (.agg cs.toArray) w
def OV(P:wq)(S:wn->Prop)(o:Oper)(ρ : Operand->Option wm)(w:wn)(K:VK):Prop:=
 cond (Iv P o) (Lo P o ρ w K) (match o.op with
  | .load t x=>match ρ x,Lz P t,Hq P t with
   | some p,some wk,some n=>AM S n p w K
   | some p,some wl,_=>An S p w K
   | _,_,_=>False
  | .binOp op t x y _=>match ρ x, ρ y with
   | some a,some b=>∃v,(∀w',S w'->(do eqGuard op t x y a b;binOp op t a b:Sem wm).run P w'=.ok v w')/\K v w
   | _,_=>False
  | .build t parts=>match EZ (parts.toList.map λp => ρ p.2) with
   | some vs=>∃v,(∀w',S w'->(Instr.build t ((parts.toList.map (·.1)).zip vs).toArray).run P w'=.ok v w')/\K v w
   | none=>False
  | .slice t x lo hi wj=>match ρ x,lo.map ρ,hi.map ρ with
   | some _,some wj,_=>False
   | some _,_,some wj=>False
   | some a,l,h=>∃v,(∀w',S w'->(Instr.sliceAt t a (l.bind id) (h.bind id) wj).run P w'=.ok v w')/\K v w
   | none,_,_=>False
  | .call { callee := .builtin b,args,argTypes }=>match EZ (args.toList.map ρ) with
   | some vs=>∃v,(∀w',S w'->(builtin b argTypes o.type (args.map fun | .const _=>wk | _=>wl) vs.toArray).run P w'=.ok (.value v) w')/\K v w
   | none=>False
  | _=>False)
def B6(v:wm)(X:Prop):Prop:=(∀l a b,v ≠ .func (.yield l) a b)/\X
def Hk(o:Oper)(env:C1)(X:Prop):Prop:=match o.op with
 | .call { callee := .value (.func _), .. }=>X
 | .call { callee := .value f, .. }=>match ev env f with
  | some v=>B6 v X
  | none=>False
 | _=>X
def De(P:wq)(ops:Array Oper)(S:wn->Prop)(held:Bool)(K:EK):Plan->Bool->C1->wn->Prop
 | .fin,wl,env,w=>K env w
 | .fin,wk,_,_=>True
 | .take i p,_,env,w=>match ops[i]? with
  | none=>False
  | some o=>Kx ops o env (λK'=>OV P S o (ev env) w K') w (λv w'=>De P ops S held K p wl (putE o.dst v env) w')
 | .go i p q,_,env,w=>match ops[i]? with
  | none=>False
  | some o=>(cond held (Hk o env (IH P ops o env w λenv' w'=>S w'/\De P ops S held K p wl env' w')) (IH P ops o env w λenv' w'=>S w'/\De P ops S held K p wl env' w'))/\De P ops S held K q wk env w
section
variable{P:wq}{S:wn->Prop}{ρ : Operand->Option wm}{a:Act}{w:wn}{K:VK}
def IG{t e:TypeId}(he:FD P t=wh e):P.underlying t=wh (.slice e):=by
 unfold FD at he;split at he
 ·cases he;assumption
 ·cases he
def Mh{o:Oper}(hρ : ∀x v, ρ x=wh v->a.eval x=v)(hwl:Iv P o=wk)(h:Lo P o ρ w K):
  ∃v,(∀w',(execOp a.eval o).run P w'=.ok (.value v) w')/\K v w:=by
 obtain⟨dst,op,type,pos,after,guard⟩:=o;cases op<;>simp only[Iv,yZ]at hwl<;>simp only[Lo]at h
 case move x=>
  split at h
  ·rename_i v hv;exact⟨v,λw'=>by simp[execOp,hρ x v hv],h⟩
  ·exact h.elim
 case assign x=>
  split at h
  ·rename_i v hv;exact⟨v,λw'=>by simp[execOp,hρ x v hv],h⟩
  ·exact h.elim
 case pick c x y=>
  obtain⟨t,hc,v,hv,hk⟩:=h;refine⟨v,λw'=>?_,hk⟩;have hc':=hρ c _ hc;cases t with
  | true=>have:=hρ x _ hv;simp[execOp,hc',asBool,this]
  | false=>have:=hρ y _ hv;simp[execOp,hc',asBool,this]
 case nilCheck x=>
  split at h
  ·rename_i p hp;obtain⟨hn,hk⟩:=h;refine⟨p,λw'=>?_,hk⟩;have hx:=hρ x _ hp;cases p<;>simp_all [execOp,LN]
   case pointer ad=>cases ad<;>simp_all
   case func fn _ _=>cases fn<;>simp_all
  ·exact h.elim
 case binOp op t x y yt=>
  split at h
  ·rename_i u v hu hv;have e1:=hρ x _ hu;have e2:=hρ y _ hv;rw[hwl]at h;obtain⟨k,m,n,r,rfl,rfl,hr,hk⟩:=h;refine⟨r,λw'=>?_,hk⟩;simp[execOp,e1,e2,Cx,Jr hr]
  ·exact h.elim
 case unOp op t x=>
  cases op with
  | not=>
   simp only at h;split at h
   ·rename_i u hu;obtain⟨b,rfl,hk⟩:=h;exact⟨_,λw'=>by simp[execOp,hρ x _ hu,Op.unary],hk⟩
   ·exact h.elim
  | _=>simp at hwl
 case convert s t x=>
  split at h
  ·rename_i u hu;split at h
   ·rename_i k hs ht;obtain⟨k',n,rfl,hk⟩:=h;refine⟨_,λw'=>?_,hk⟩;simp[execOp,hρ x _ hu,convert,underlying,hs,ht,Conv.intToInt]
   ·rename_i hno;split at hwl
    ·rename_i k1 k2 e1 e2;exact (hno _ _ e1 e2).elim
    ·cases hwl
  ·exact h.elim
 case makeFunc fn first captured=>
  split at h
  ·rename_i l m hl hm;refine⟨_,λw'=>?_,h⟩;have h1:=F0 hρ _ _ hl;have h2:=F0 hρ _ _ hm;have h1':first.map a.eval=l.toArray:=by rw[<-h1];apply vn;simp
   have h2':captured.map a.eval=m.toArray:=by rw[<-h2];apply vn;simp
   simp[execOp,Instr.makeFunc,h1',h2']
  ·exact h.elim
 case fieldAddr s x f=>
  split at h
  ·rename_i p fl hp hf;split at h
   ·rename_i n hn;obtain⟨ad,rfl,hk⟩:=h;refine⟨_,λw'=>?_,hk⟩;have hs:∃fs,P.underlying s=wh (.struct fs)/\fs[f]?=wh fl:=by
     unfold Mu at hf;split at hf
     ·exact⟨_, ‹_›,hf⟩
     ·cases hf
    obtain⟨fs,hs,hfs⟩:=hs;simp[execOp,Instr.fieldAt,underlying,hs,hfs,Instr.sureAddr,hρ x _ hp,fieldPlace,DF hn]
   ·exact h.elim
  ·exact h.elim
 case indexAddr t x i=>
  split at h
  ·rename_i u u' e hu hu' he;split at h
   ·rename_i n hn;obtain⟨g,len,cap,k,j,rfl,rfl,h0,h1,hk⟩:=h;refine⟨_,λw'=>?_,hk⟩;have hs:=IG he;simp[execOp,Instr.indexAt,asIntOf,underlying,hs,hρ x _ hu,hρ i _ hu',h0,h1,DF hn]
   ·exact h.elim
  ·rename_i u u' hu hu' he;split at h
   ·rename_i ln e ha;split at h
    ·rename_i n hn;obtain⟨g,k,j,rfl,rfl,h0,h1,hk⟩:=h;refine⟨_,λw'=>?_,hk⟩;have hs:P.underlying t=wh (.array ln e):=by
      unfold J0 at ha;split at ha
      ·cases ha;assumption
      ·cases ha
     simp[execOp,Instr.indexAt,asIntOf,Instr.sureAddr,underlying,hs,hρ x _ hu,hρ i _ hu',h0,h1,DF hn]
    ·exact h.elim
   ·exact h.elim
  ·exact h.elim
 case extract x i=>
  split at h
  ·rename_i u hu;obtain⟨vs,v,rfl,hv,hk⟩:=h;exact⟨v,λw'=>by simp[execOp,Instr.extract,hρ x _ hu,hv],hk⟩
  ·exact h.elim
 case call c=>
  obtain⟨callee,args,argTypes⟩:=c;cases callee with
  | value f=>simp at hwl
  | invoke r m=>simp at hwl
  | builtin b=>
   cases b<;>simp only[yZ]at hwl
   case len=>
    simp only[zY]at hwl;obtain⟨h1,h2⟩:=hwl;cases hvs:EZ (args.toList.map ρ) with
    | none=>simp only[hvs]at h
    | some vs=>
     have hargs:=F0 hρ _ _ hvs;have hargs':args.map a.eval=vs.toArray:=by rw[<-hargs];apply vn;simp
     obtain⟨e,he⟩:=Option.isSome_iff_exists.1 h1;have hl:args.size=1:=yM h2;obtain⟨x,rfl⟩:∃x,vs=[x]:=by
      have hv:vs.length=1:=by rw[<-hargs];simpa using hl
      match vs,hv with
      | [x],_=>exact⟨x,rfl⟩
     simp only[hvs,Ir,he]at h;obtain⟨g,n,c,rfl,hk⟩:=h;refine⟨_,λw'=>?_,hk⟩;simp only[Option.bind_eq_some_iff]at he;obtain⟨t,h0,he⟩:=he;have hs:=IG he;simp only[execOp,resolve,hargs',invoke,vf,vg,zT];simp[builtin,Builtin.len_,h0,underlying,hs,goInt]
def OW{o:Oper}(hρ : ∀x v, ρ x=wh v->a.eval x=v)(h:OV P S o ρ w K):∃v,(∀w',S w'->(execOp a.eval o).run P w'=.ok (.value v) w')/\K v w:=by
 unfold OV at h;cases hwl:Iv P o with
 | true=>
  rw[hwl]at h;simp only[vp]at h;obtain⟨v,hv,hk⟩:=Mh hρ hwl h;exact⟨v,λw' _=>hv w',hk⟩
 | false=>
  rw[hwl]at h;simp only[cond_false]at h;obtain⟨dst,op,type,pos,after,guard⟩:=o;cases op<;>simp only at h<;>try exact h.elim
  case load t x=>
   split at h
   ·rename_i p n hp hag hn;obtain⟨ad,cs,rfl,hc,hk⟩:=h;refine⟨_,λw' hS=>?_,hk⟩;simp[execOp,Instr.loadAt,Instr.sureAddr,hρ x _ hp,loadVar,Gf hag,DF hn,loadCells,GQ P w' ad n 0 #[] cs (hc w' hS)]
   ·rename_i p q hp hag;obtain⟨ad,v,rfl,hc,hk⟩:=h;refine⟨v,λw' hS=>?_,hk⟩;simp[execOp,Instr.loadAt,Instr.sureAddr,hρ x _ hp,loadVar,Gf hag,hc w' hS]
   ·exact h.elim
  case binOp op t x y yt=>
   split at h
   ·rename_i u v hu hv;have e1:=hρ x _ hu;have e2:=hρ y _ hv;obtain⟨r,hr,hk⟩:=h;refine⟨r,λw' hS=>?_,hk⟩;have hr':=hr w' hS;simp only[execOp,e1,e2];simp only[vf]at hr' ⊢;rw[hr'];rfl
   ·exact h.elim
  case build t parts=>
   split at h
   ·rename_i vs hvs;obtain⟨v,hr,hk⟩:=h;refine⟨v,λw' hS=>?_,hk⟩;have:=GO hρ _ _ hvs;have hp:(parts.map λ(i,x)=>(i,a.eval x))=((parts.toList.map (·.1)).zip vs).toArray:=by rw[<-this];apply vn ;simp
    simp only[execOp,hp,vf,hr w' hS];rfl
   ·exact h.elim
  case slice t x lo hi mx=>
   cases mx with
   | some _=>exact h.elim
   | none=>
    simp only at h;have hlo:∀l,lo.map ρ = l->l≠wh wj->lo.map a.eval=l.bind id:=by
     intro l hl hne;cases lo with
     | none=>simp at hl;subst hl;rfl
     | some q=>
      simp at hl;subst hl;cases hq : ρ q with
      | none=>simp[hq]at hne
      | some z=>simp[hρ q z hq]
    have hhi:∀l,hi.map ρ = l->l≠wh wj->hi.map a.eval=l.bind id:=by
     intro l hl hne;cases hi with
     | none=>simp at hl;subst hl;rfl
     | some q=>
      simp at hl;subst hl;cases hq : ρ q with
      | none=>simp[hq]at hne
      | some z=>simp[hρ q z hq]
    split at h
    ·exact h.elim
    ·exact h.elim
    ·rename_i u l r hu h1 h2;obtain⟨v,hr,hk⟩:=h;refine⟨v,λw' hS=>?_,hk⟩;have e1:=hlo _ rfl (by assumption);have e2:=hhi _ rfl (by assumption);simp only[execOp,hρ x _ hu,e1,e2,Option.map_none,vf,hr w' hS];rfl
    ·exact h.elim
  case call c=>
   obtain⟨callee,args,argTypes⟩:=c;cases callee with
   | value f=>exact h.elim
   | invoke r m=>exact h.elim
   | builtin b=>
    simp only at h;cases hvs:EZ (args.toList.map ρ) with
    | none=>rw[hvs]at h;exact h.elim
    | some vs=>
     rw[hvs]at h;obtain⟨v,hr,hk⟩:=h;have hargs:=F0 hρ _ _ hvs;have hargs':args.map a.eval=vs.toArray:=by rw[<-hargs];apply vn;simp
     refine⟨v,λw' hS=>?_,hk⟩;simp only[execOp,resolve,hargs',invoke,vf,vg,zT];exact hr w' hS
def IE{o:Oper}{env:C1}{n:Nat}{a:Act}{X:Prop}(he:Df n env a)(h:Hk o env X):EF a.eval o=wl/\X:=by
 obtain⟨dst,op,type,pos,after,guard⟩:=o;cases op with
 | call c=>
  obtain⟨callee,args,argTypes⟩:=c;cases callee with
  | value f=>
   cases f with
   | func f'=>exact⟨by simp[EF,Act.eval],h⟩
   | tmp t=>
    simp only[Hk]at h;split at h
    ·rename_i v hv;have e:=he.eval hv;refine⟨?_,h.2⟩;simp only[EF,e];split
     ·rename_i l a b;exact absurd rfl (h.1 l a b)
     ·rfl
    ·exact h.elim
   | const c=>
    simp only[Hk]at h;split at h
    ·rename_i v hv;have e:=he.eval hv;refine⟨?_,h.2⟩;simp only[EF,e];split
     ·rename_i l a b;exact absurd rfl (h.1 l a b)
     ·rfl
    ·exact h.elim
   | global g=>
    simp only[Hk]at h;split at h
    ·rename_i v hv;have e:=he.eval hv;refine⟨?_,h.2⟩;simp only[EF,e];split
     ·rename_i l a b;exact absurd rfl (h.1 l a b)
     ·rfl
    ·exact h.elim
  | _=>exact⟨rfl,h⟩
 | _=>exact⟨rfl,h⟩
def Tj{n:Nat}{ops:Array Oper}{i:Nat}{o:Oper}{env:C1}{K:EK}{K':Act->wn->Prop}{Q:Exit->Act->wn->Prop}(hi:ops[i]?=wh o)(hc:EF a.eval o=wl)(hd:L9 n o)(he:Df n env a)(h:IH P ops o env w K)(hk:∀env' a' w',Df n env' a'->K env' w'->K' a' w'):wpOp P ops Q i K' a w:=by
 unfold wpOp;simp only[hi];rcases Iu he h with⟨hw,h1⟩|⟨hw,h1⟩
 ·rw[vy hw];exact .inl (Jt.wp hc (Jn (λx v hv=>he.eval hv) h1) λv w' hkv=>hk _ _ _ (he.putE hd v) hkv)
 ·rw[vx (by simp[hw])];exact hk _ _ _ (he.putE hd undef) h1
end
def Fv:Plan->Nat
 | .fin=>0
 | .take _ p=>Fv p+1
 | .go _ p q=>max (Fv p+1) (Fv q)
def Rd{P:wq}{n:Nat}{ops:Array Oper}{S:wn->Prop}{Q:Exit->C1->wn->Prop}(hs:Region.noSelect ops=wk)(hd:∀o∈ops.toList,L9 n o)(p:Plan):
  (∀(fuel:Nat) (listed:Array Bool) (env:C1) (a:Act) (w:wn),Fv p<=fuel->Dc ops p wj listed=wk->Df n env a->S w->
   De P ops S wk (λe w=>Q .normal e w) p wl env w->wpAnyH P .any ops (EP n Q) S fuel listed a w)/\
  (∀(fuel:Nat) (rs:List Nat) (listed:Array Bool) (env:C1) (a:Act) (w:wn),Fv p<=fuel+1->Dc ops p (wh rs) listed=wk->Df n env a->S w->
   De P ops S wk (λe w=>Q .normal e w) p wk env w->∀i∈rs,wpOp P ops (EP n Q) i (λa' w'=>S w'/\wpAnyH P .any ops (EP n Q) S fuel (listed.setIfInBounds i wk) a' w') a w):=by
 have hdi:∀(i:Nat) (o:Oper),ops[i]?=wh o->L9 n o:=λi o ho=>hd o (by simpa using Array.mem_of_getElem? ho);induction p with
 | fin=>
  refine⟨?_,?_⟩
  ·intro fuel listed env a w _ hok he _ h;exact wpAnyH_done (by simpa[Dc] using hok) ⟨env,he,h⟩ fuel
  ·intro fuel rs listed env a w _ hok _ _ _ i hi;simp only[Dc,List.isEmpty_iff]at hok;subst hok;cases hi
 | take i p ih=>
  refine⟨?_,?_⟩
  ·intro fuel listed env a w hf hok he hS h;obtain⟨fuel,rfl⟩:∃m,fuel=m+1:=⟨fuel-1,by simp only[Fv]at hf;omega⟩;simp only[Dc,zY]at hok;obtain⟨⟨h1,h2⟩,h3⟩:=hok;simp only[De]at h;split at h
   ·exact h.elim
   ·rename_i o ho;rcases Iu he h with⟨hw,hv⟩|⟨hw,hv⟩
    ·obtain⟨v,hrun,hk⟩:=OW (λx v hv=>he.eval hv) hv;exact wpAnyH_take ho hs h2 h1 (λc a w h=>h) (.inl ⟨hw,hrun⟩) hS (ih.1 fuel _ _ _ _ (by simp only[Fv]at hf;omega) h3 (he.putE (hdi i o ho) v) hS hk)
    ·exact wpAnyH_take ho hs h2 h1 (λc a w h=>h) (.inr ⟨hw,rfl⟩) hS (ih.1 fuel _ _ _ _ (by simp only[Fv]at hf;omega) h3 (he.putE (hdi i o ho) undef) hS hv)
  ·intro fuel rs listed env a w _ hok;simp[Dc]at hok
 | go i p q ih1 ih2=>
  have one:∀(fuel:Nat) (listed:Array Bool) (env:C1) (a:Act) (w:wn),Fv p<=fuel->Dc ops p wj (listed.setIfInBounds i wk)=wk->Df n env a->
    De P ops S wk (λe w=>Q .normal e w) (.go i p q) wl env w->
    wpOp P ops (EP n Q) i (λa' w'=>S w'/\wpAnyH P .any ops (EP n Q) S fuel (listed.setIfInBounds i wk) a' w') a w:=by
   intro fuel listed env a w hf hok he h;simp only[De]at h;split at h
   ·exact h.elim
   ·rename_i o ho;exact Tj ho (IE he h.1).1 (hdi i o ho) he (IE he h.1).2 λenv' a' w' he' hk=>⟨hk.1,ih1.1 fuel _ env' a' w' hf hok he' hk.1 hk.2⟩
  have two:∀(env:C1) (w:wn) (b:Bool),De P ops S wk (λe w=>Q .normal e w) (.go i p q) b env w->De P ops S wk (λe w=>Q .normal e w) (.go i p q) wl env w/\De P ops S wk (λe w=>Q .normal e w) q wk env w:=by
   intro env w b h;refine⟨by cases b<;>exact h,?_⟩;simp only[De]at h;split at h
   ·exact h.elim
   ·exact h.2
  refine⟨?_,?_⟩
  ·intro fuel listed env a w hf hok he hS h;simp only[Fv]at hf;obtain⟨fuel,rfl⟩:∃m,fuel=m+1:=⟨fuel-1,by omega⟩;simp only[Dc]at hok;split at hok
   ·rename_i j rs hr;simp only[zY]at hok;obtain⟨⟨h1,h2⟩,h3⟩:=hok;obtain rfl:j=i:=yM h1;refine wpAnyH_all hr (by simp) λm hm=>?_;rcases ux.1 hm with rfl|hm
    ·exact one fuel listed env a w (by omega) h2 he (two env w wl h).1
    ·exact ih2.2 fuel rs listed env a w (by omega) h3 he hS (two env w wl h).2 m hm
   ·cases hok
  ·intro fuel rs listed env a w hf hok he hS h m hm;simp only[Fv]at hf;cases rs with
   | nil=>cases hm
   | cons j rs=>
    simp only[Dc,zY]at hok;obtain⟨⟨h1,h2⟩,h3⟩:=hok;obtain rfl:j=i:=yM h1;rcases ux.1 hm with rfl|hm
    ·exact one fuel listed env a w (by omega) h2 he (two env w wk h).1
    ·exact ih2.2 fuel rs listed env a w (by omega) h3 he hS (two env w wk h).2 m hm
def HE:Plan->Bool
 | .fin=>wk
 | .take _ _=>wl
 | .go _ p q=>HE p && HE q
def Pp{P:wq}{r:Option Nat}{n:Nat}{ops:Array Oper}{i:Nat}{o:Oper}{env:C1}{w:wn}{a:Act}{K:EK}{K':Act->wn->Prop}{Q:Exit->Act->wn->Prop}(hi:ops[i]?=wh o)(hd:L9 n o)(he:Df n env a)(h:IH P ops o env w K)(hk:∀env' a' w',Df n env' a'->K env' w'->K' a' w'):wpOpIn (Fc r) 0 P ops Q i K' a w:=by
 unfold wpOpIn;simp only[hi];rcases Iu he h with⟨hw,h1⟩|⟨hw,h1⟩
 ·rw[vy hw];exact Jt.wpIn (Ka h1) (Jn (λx v hv=>he.eval hv) h1) λv w' hkv=>hk _ _ _ (he.putE hd v) hkv
 ·rw[vx (by simp[hw])];exact⟨λ_ _=>trivial,hk _ _ _ (he.putE hd undef) h1⟩
def OA{P:wq}{r:Option Nat}{n:Nat}{ops:Array Oper}{S:wn->Prop}{Q:Exit->C1->wn->Prop}(hd:∀o∈ops.toList,L9 n o)(p:Plan):HE p=wk->
  (∀(fuel:Nat) (listed:Array Bool) (env:C1) (a:Act) (w:wn),Fv p<=fuel->Dc ops p wj listed=wk->Df n env a->
   De P ops S wl (λe w=>Q .normal e w) p wl env w->wpAnyIn (Fc r) 0 P .any ops (EP n Q) fuel listed a w)/\
  (∀(fuel:Nat) (rs:List Nat) (listed:Array Bool) (env:C1) (a:Act) (w:wn),Fv p<=fuel+1->Dc ops p (wh rs) listed=wk->Df n env a->
   De P ops S wl (λe w=>Q .normal e w) p wk env w->∀i∈rs,wpOpIn (Fc r) 0 P ops (EP n Q) i (λa' w'=>wpAnyIn (Fc r) 0 P .any ops (EP n Q) fuel (listed.setIfInBounds i wk) a' w') a w):=by
 have hdi:∀(i:Nat) (o:Oper),ops[i]?=wh o->L9 n o:=λi o ho=>hd o (by simpa using Array.mem_of_getElem? ho);induction p with
 | fin=>
  intro _;refine⟨?_,?_⟩
  ·intro fuel listed env a w _ hok he h;exact wpAnyIn_done (by simpa[Dc] using hok) ⟨env,he,h⟩ fuel
  ·intro fuel rs listed env a w _ hok _ _ i hi;simp only[Dc,List.isEmpty_iff]at hok;subst hok;cases hi
 | take i p ih=>intro h;cases h
 | go i p q ih1 ih2=>
  intro hg;simp only[HE,zY]at hg;have ih1:=ih1 hg.1;have ih2:=ih2 hg.2;have one:∀(fuel:Nat) (listed:Array Bool) (env:C1) (a:Act) (w:wn),Fv p<=fuel->Dc ops p wj (listed.setIfInBounds i wk)=wk->Df n env a->
    De P ops S wl (λe w=>Q .normal e w) (.go i p q) wl env w->
    wpOpIn (Fc r) 0 P ops (EP n Q) i (λa' w'=>wpAnyIn (Fc r) 0 P .any ops (EP n Q) fuel (listed.setIfInBounds i wk) a' w') a w:=by
   intro fuel listed env a w hf hok he h;simp only[De]at h;split at h
   ·exact h.elim
   ·rename_i o ho;have h1:IH P ops o env w λenv' w'=>S w'/\De P ops S wl (λe w=>Q .normal e w) p wl env' w':=h.1;exact Pp ho (hdi i o ho) he h1 λenv' a' w' he' hk=>ih1.1 fuel _ env' a' w' hf hok he' hk.2
  have two:∀(env:C1) (w:wn) (b:Bool),De P ops S wl (λe w=>Q .normal e w) (.go i p q) b env w->De P ops S wl (λe w=>Q .normal e w) (.go i p q) wl env w/\De P ops S wl (λe w=>Q .normal e w) q wk env w:=by
   intro env w b h;refine⟨by cases b<;>exact h,?_⟩;simp only[De]at h;split at h
   ·exact h.elim
   ·exact h.2
  refine⟨?_,?_⟩
  ·intro fuel listed env a w hf hok he h;simp only[Fv]at hf;obtain⟨fuel,rfl⟩:∃m,fuel=m+1:=⟨fuel-1,by omega⟩;simp only[Dc]at hok;split at hok
   ·rename_i j rs hr;simp only[zY]at hok;obtain⟨⟨h1,h2⟩,h3⟩:=hok;obtain rfl:j=i:=yM h1;refine wpAnyIn_all hr (by simp) λm hm=>?_;rcases ux.1 hm with rfl|hm
    ·exact one fuel listed env a w (by omega) h2 he (two env w wl h).1
    ·exact ih2.2 fuel rs listed env a w (by omega) h3 he (two env w wl h).2 m hm
   ·cases hok
  ·intro fuel rs listed env a w hf hok he h m hm;simp only[Fv]at hf;cases rs with
   | nil=>cases hm
   | cons j rs=>
    simp only[Dc,zY]at hok;obtain⟨⟨h1,h2⟩,h3⟩:=hok;obtain rfl:j=i:=yM h1;rcases ux.1 hm with rfl|hm
    ·exact one fuel listed env a w (by omega) h2 he (two env w wk h).1
    ·exact ih2.2 fuel rs listed env a w (by omega) h3 he (two env w wk h).2 m hm
abbrev QE:=Exit->C1->wn->Prop
structure Cg where
 cuts:List (Nat × List Nat)
 loops:List (Nat × List Nat)
 labels:List (Nat × List Nat)
 plans:List (Nat × Plan)
 rd:Option Nat:=wj
def N2{α : Type}:List (Nat × α)->Nat->Option α
 | [],_=>wj
 | (k,v)::r,t=>cond (Nat.beq k t) (wh v) (N2 r t)
def I8:Code->Option Nat
 | .region id _ _=>wh id
 | .seq a _=>I8 a
 | .block _ c | .loop c | .scope c=>I8 c
 | _=>wj
def sub:List Nat->C1->Option C1
 | [],_=>wh []
 | t::ts,env=>match lk env t,sub ts env with
  | some v,some r=>some ((t,v)::r)
  | _,_=>wj
theorem SC:∀(ts:List Nat) (env env':C1),sub ts env=wh env'->∀t v,lk env' t=wh v->lk env t=wh v
 | [],env,env',h,t,v,hv=>by simp[sub]at h;subst h;simp[lk]at hv
 | t0::ts,env,env',h,t,v,hv=>by
  simp only[sub]at h;split at h
  ·rename_i v0 r h0 hr;simp only[zS]at h;subst h;rw[H5]at hv;by_cases ht:t0=t
   ·subst ht;simp only[vu,zS]at hv;subst hv;exact h0
   ·rw[vx ht]at hv;exact SC ts env r hr t v hv
  ·cases h
def Mt(live:Option (List Nat))(env:C1)(K:C1->Prop):Prop:=
 match live with
 | none=>K env
 | some ts=>match sub ts env with
  | some env'=>match lk env Es,lk env' Es with
   | some _,wj=>False
   | _,_=>K env'
  | none=>False
def Ic{n:Nat}{live:Option (List Nat)}{env:C1}{K:C1->Prop}{a:Act}(h:Mt live env K)(he:Df n env a):∃env',Df n env' a/\K env':=by
 unfold Mt at h;split at h
 ·exact⟨env,he,h⟩
 ·split at h
  ·rename_i env' hs;split at h
   ·exact h.elim
   ·rename_i hne;refine⟨env',he.mono (SC _ _ _ hs) λhm=>?_,h⟩;cases h1:lk env Es with
    | none=>rw[h1]at hm;cases hm
    | some v=>
     cases h2:lk env' Es with
     | some u=>rfl
     | none=>exact (hne v h1 h2).elim
  ·exact h.elim
def QL(l:List (Nat × List Nat))(r:Option Nat):Option (List Nat):=match r with | wh r=>N2 l r | wj=>wj
def N5(A:Cg)(r:Option Nat)(Y:EK)(Q:QE):QE:=λe env w=>match e with
 | .normal=>Mt (QL A.cuts r) env λenv'=>Y env' w
 | e=>Q e env w
def NV(id:Nat)(Q:QE):QE:=λe env w=>match e with
 | .exit i=>cond (Nat.beq i id) (Q .normal env w) (Q (.exit i) env w)
 | e=>Q e env w
def Lt(P:wq)(n:Nat)(r:Option Nat)(body:Code)(Q:QE)(env:C1)(w:wn):Prop:=
 ∀a,Df n env a->∀(b:Frame) (k:List Item) (cs:List Frame),b.roundOf=r->∃e a' w',EP n Q e a' w'/\ArrivesIn (Machine.fenced P (Fc r)) P (lone (b.atR a (.code body::.inLoop body::k)) cs w) b k cs e a' w'
def N4(A:Cg)(P:wq)(n:Nat)(body:Code)(Q:QE):QE:=λe env w=>match e with
 | .normal=>Mt (wh ((QL A.loops (I8 body)).getD [])) env λenv'=>Lt P n A.rd body Q env' w
 | e=>Q e env w
def Xk(P:wq)(n:Nat)(r:Option Nat)(body c:Code)(Q:QE)(env:C1)(w:wn):Prop:=
 ∀a,Df n env a->∀(b:Frame) (k:List Item) (cs:List Frame),b.roundOf=r->∃e a' w',EP n Q e a' w'/\ArrivesIn (Machine.fenced P (Fc r)) P (lone (b.atR a (.code c::.inScope body::k)) cs w) b k cs e a' w'
def LZ(A:Cg)(P:wq)(n:Nat)(body:Code)(Q:QE):QE:=λe env w=>match e with
 | .goto l=>match findLabel body l with
  | some rest=>Mt (some ((N2 A.labels l).getD [])) env λenv'=>Xk P n A.rd body rest Q env' w
  | none=>Q (.goto l) env w
 | e=>Q e env w
def A2(w:wn)(F:(wn->Prop)->wn->Prop):Prop:=∃S:wn->Prop,S { w with drawn:=w.drawn+1 }/\F S { w with drawn:=w.drawn+1 }
def Sp(A:Cg)(P:wq)(n id:Nat)(ops:Array Oper):Option Plan:=
 match N2 A.plans id with
 | some p=>cond (Kh n ops.toList && Region.noSelect ops && P.follows .mixedOrders && Dc ops p wj (Array.replicate ops.size wl) && Nat.ble (Fv p) ops.size) (some p) wj
 | none=>none
def Jo(A:Cg)(P:wq)(n id:Nat)(ops:Array Oper)(draw:Bool)(K:EK)(env:C1)(w:wn):Prop:=
 match draw with
 | false=>cond (Kh n ops.toList) (OU P ops ops.toList env w K) False
 | true=>match Sp A P n id ops with
  | some p=>cond (HE p || A.rd.isNone) (A2 w λS w=>De P ops S (!HE p) K p wl env w) False
  | none=>False
def Bj(P:wq)(n:Nat)(gv:wm)(ps:Array Tmp)(as bd:Code)(env:C1)(w:wn)(K:Nat->Option Code->wn->Prop):Prop:=
 match gv with
 | .func (.func f) first captured=>cond (DK P f) (∀fn tmps,tmps.size=n->(∀t v,Hs env t=wh v->tmps[t]?=wh v)->
  I P f (first.toList++([wm.func (.yield (w.heap.size+1)) #[] #[]]++captured.toList)).toArray ((w.alloc (.deferred (wh []))).alloc (.loop { state := .ready,pending:=wj,fn:=fn,tmps:=tmps,params:=ps,assign:=as,body:=bd,defers:=w.heap.size })) λ_ w'=>∃rec,w'.heap[w.heap.size+1]?=wh (.loop rec)/\rec.state ≠ .busy/\K w.heap.size rec.pending (w'.putObj (w.heap.size+1) (.loop { rec with state := .exhausted }))) False
 | _=>False
def SW(Q:QE)(env:C1)(D:Nat)(j:Option Code)(w:wn):Prop:=
 match j with
 | none=>Q .normal ((Es,.int .i64 (D:Int))::env) w
 | some .ret=>Q .ret ((Es,.int .i64 (D:Int))::env) w
 | some (.exit id)=>Q (.exit id) ((Es,.int .i64 (D:Int))::env) w
 | _=>False
def Dl(A:Cg)(P:wq)(n:Nat):Code->QE->C1->wn->Prop
 | .skip,Q,env,w=>Q .normal env w
 | .label _,Q,env,w=>Q .normal env w
 | .region id ops draw,Q,env,w=>Jo A P n id ops draw (λenv w=>Q .normal env w) env w
 | .seq x y,Q,env,w=>Dl A P n x (N5 A (I8 y) (λenv w=>Dl A P n y Q env w) Q) env w
 | .cond c x y,Q,env,w=>match ev env c with
  | some v=>Af v (Dl A P n x Q env w) (Dl A P n y Q env w)
  | none=>False
 | .block id c,Q,env,w=>Dl A P n c (NV id Q) env w
 | .loop c,Q,env,w=>Mt (wh ((QL A.loops (I8 c)).getD [])) env λenv'=>Lt P n A.rd c Q env' w
 | .scope c,Q,env,w=>Dl A P n c (LZ A P n c Q) env w
 | .exit id,Q,env,w=>Q (.exit id) env w
 | .goto l,Q,env,w=>Q (.goto l) env w
 | .ret,Q,env,w=>Q .ret env w
 | .rangeFunc g ps as bd,Q,env,w=>match ev env g,lk env Es with
  | some gv,wj=>cond A.rd.isNone (Bj P n gv ps as bd env w (SW Q env)) False
  | _,_=>False
 | _,_,_,_=>False
section
variable{A:Cg}{P:wq}{n:Nat}
def MB{id:Nat}{ops:Array Oper}{draw:Bool}{Q:QE}{env:C1}{w:wn}{a:Act}(he:Df n env a)(h:Jo A P n id ops draw (λenv w=>Q .normal env w) env w):(Code.region id ops draw).wpIn (Fc A.rd) 0 P (EP n Q) a w:=by
 cases draw with
 | false=>
  simp only[Jo]at h;cases hd:Kh n ops.toList with
  | false=>rw[hd]at h;exact h.elim
  | true=>
   rw[hd]at h;exact wpIn_region_list (HR _ _ _ _ (IQ hd) he h)
 | true=>
  simp only[Jo]at h;split at h
  ·rename_i p hp;unfold Sp at hp;split at hp
   ·rename_i p' hp';cases hc:(Kh n ops.toList && Region.noSelect ops && P.follows .mixedOrders && Dc ops p' wj (Array.replicate ops.size wl) && Nat.ble (Fv p') ops.size) with
    | false=>rw[hc]at hp;cases hp
    | true=>
     rw[hc]at hp;cases hp;simp only[zY]at hc;obtain⟨⟨⟨⟨h1,h2⟩,h3⟩,h4⟩,h5⟩:=hc;cases hg:HE p with
     | true=>
      rw[hg]at h;obtain⟨S,hS,h⟩:=h;exact wpIn_region_any h3 (((OA (IQ h1) p hg).1 ops.size _ env a _ (yN h5) h4 he h))
     | false=>
      rw[hg]at h;cases hr:A.rd.isNone with
      | false=>rw[hr]at h;exact h.elim
      | true=>
       rw[hr]at h;simp only[xQ]at hr;obtain⟨S,hS,h⟩:=h;rw[hr];exact wpIn_wide.2 (wp_region_held h3 ((Rd h2 (IQ h1) p).1 ops.size _ env a _ (yN h5) h4 he hS h))
   ·cases hp
  ·exact h.elim
section
variable{b:Frame}{a:Act}{k:List Item}{cs:List Frame}{w:wn}
def ED{c:Code}:step P (lone (b.atR a (.code (.scope c)::k)) cs w)=.next (lone (b.atR a (.code c::.inScope c::k)) cs w):=
 step_lone_go (by simp[stepG,stepG.exec,Frame.atR])
def Nw{c:Code}:step P (lone (b.atR a (.inScope c::k)) cs w)=.next (lone (b.atR a k) cs w):=
 step_lone_go (by simp[stepG,stepG.exec,Frame.atR])
end
def Qf(r:Option Nat)(m:Nat):(Fc r).room m:=λd hd=>by simp[Fc,Fence.wide]at hd
def T8{r:Option Nat}{body:Code}{Q:QE}{env:C1}{w:wn}{a:Act}(he:Df n env a)(h:Lt P n r body Q env w):(Code.loop body).wpIn (Fc r) 0 P (EP n Q) a w:=by intro b k cs hro hb hr;obtain⟨e,a',w',hq,harr⟩:=h a he b k cs hro;exact⟨e,a',w',hq,.of_steps (.one (fenced_calm (n:=0) hb hr rfl) stepR_loop) harr⟩
def Tl{r:Option Nat}{rr:Option Nat}{Y:Code}{Q:QE}(hY:∀env a w,Df n env a->Dl A P n Y Q env w->Y.wpIn (Fc rr) 0 P (EP n Q) a w)(e:Exit)(a:Act)(w:wn)(h:EP n (N5 A r (λenv w=>Dl A P n Y Q env w) Q) e a w):Exit.then (Y.wpIn (Fc rr) 0 P (EP n Q)) (EP n Q) e a w:=by
 cases e with
 | normal=>
  obtain⟨env,he,h⟩:=h;simp only[N5]at h;obtain⟨env',he',h'⟩:=Ic h he;exact hY env' a w he' h'
 | panic c=>exact h.elim
 | outgrown=>exact h.elim
 | exit i=>exact h
 | goto l=>exact h
 | ret=>exact h
def Gz:∀(c:Code) (Q:QE) (env:C1) (a:Act) (w:wn),Df n env a->Dl A P n c Q env w->c.wpIn (Fc A.rd) 0 P (EP n Q) a w:=by
 intro c;induction c with
 | skip=>intro Q env a w he h;exact wpIn_skip ⟨env,he,h⟩
 | label l=>intro Q env a w he h;exact wpIn_label ⟨env,he,h⟩
 | region id ops draw=>intro Q env a w he h;exact MB he h
 | seq x y ihx ihy=>
  intro Q env a w he h;exact wpIn_seq (wpIn_mono (ihx _ env a w he h) λe a w hq=>Tl (λenv a w he h=>ihy Q env a w he h) e a w hq)
 | cond c x y ihx ihy=>
  intro Q env a w he h;simp only[Dl]at h;split at h
  ·rename_i v hv;obtain⟨t,rfl,h1,h2⟩:=h;exact wpIn_cond_split (he.eval hv) (λht=>ihx Q env a w he (h1 ht)) (λht=>ihy Q env a w he (h2 ht))
  ·exact h.elim
 | block id c ih=>
  intro Q env a w he h;refine wpIn_block (wpIn_mono (ih _ env a w he h) λe a w hq=>?_);cases e with
  | exit i=>
   obtain⟨env',he',hq⟩:=hq;simp only[NV]at hq;simp only[Exit.inBlock];cases hb:Nat.beq i id with
   | true=>
    rw[hb]at hq;rw[vy (yM hb)];exact⟨env',he',hq⟩
   | false=>
    rw[hb]at hq;rw[vx (yC hb)];exact⟨env',he',hq⟩
  | normal=>exact hq
  | goto l=>exact hq
  | ret=>exact hq
  | panic c=>exact hq
  | outgrown=>exact hq
 | loop c _=>
  intro Q env a w he h;obtain⟨env',he',h'⟩:=Ic h he;exact T8 he' h'
 | scope c ih=>
  intro Q env a w he h;intro b k cs hro hb hr;obtain⟨e,a₁,w₁,hq,harr⟩:=ih _ env a w he h b (.inScope c::k) cs hro hb hr;have i0:=fenced_calm (P:=P) (F:=Fc A.rd) (n:=0) (fr:=b.atR a (.code (.scope c)::k)) (cs:=cs) (w:=w) hb hr rfl;cases e with
  | normal=>exact⟨.normal,a₁,w₁,hq,.head i0 ED (StepsIn.trans harr (.one (fenced_calm (n:=0) hb hr rfl) Nw))⟩
  | exit id=>
   have hx:exitTo id (.inScope c::k)=exitTo id k:=by simp[exitTo]
   exact⟨.exit id,a₁,w₁,hq,λk' hk => .head i0 ED (harr.1 k' (by rw[hx];exact hk)),
    λhr' hk=>let ⟨k₁,h1,h2⟩:=harr.2 hr' (by rw[hx];exact hk); ⟨k₁,h1,.head i0 ED h2⟩⟩
  | goto l=>
   obtain⟨env₁,he₁,hq⟩:=hq;simp only[LZ]at hq;split at hq
   ·rename_i rest hrest;obtain⟨env₂,he₂,hq⟩:=Ic hq he₁;obtain⟨e₂,a₂,w₂,hq₂,harr₂⟩:=hq a₁ he₂ b k cs hro;exact⟨e₂,a₂,w₂,hq₂,.of_steps (.head i0 ED (harr.1 _ (by simp[gotoIn,hrest]))) harr₂⟩
   ·rename_i hnone;have hx:gotoIn l (.inScope c::k)=gotoIn l k:=by simp[gotoIn,hnone]
    exact⟨.goto l,a₁,w₁,⟨env₁,he₁,hq⟩,λk' hk => .head i0 ED (harr.1 k' (by rw[hx];exact hk)),
     λhr' hk=>let ⟨k₁,h1,h2⟩:=harr.2 hr' (by rw[hx];exact hk); ⟨k₁,h1,.head i0 ED h2⟩⟩
  | ret=>exact⟨.ret,a₁,w₁,hq,.of_steps (.one i0 ED) harr⟩
  | panic ch=>exact hq.elim
  | outgrown=>exact hq.elim
 | exit id=>intro Q env a w he h;exact wpIn_exit ⟨env,he,h⟩
 | goto l=>intro Q env a w he h;exact wpIn_goto ⟨env,he,h⟩
 | ret=>intro Q env a w he h;exact wpIn_ret ⟨env,he,h⟩
 | rangeFunc g ps as bd _ _=>
  intro Q env a w he h;simp only[Dl]at h;split at h
  ·rename_i gv hgv hmk;cases hr:A.rd.isNone with
   | false=>rw[hr]at h;exact h.elim
   | true=>
    rw[hr]at h;simp only[xQ]at hr;rw[hr];have hg:=he.eval hgv;refine wpIn_rangeFunc λfn _=>?_;simp only[vp]at h;unfold Bj at h;split at h
    ·rename_i f' first captured
     cases hb:DK P f' with
     | false=>rw[hb]at h;exact h.elim
     | true=>
      rw[hb]at h;have h:=h fn a.tmps he.size he.has;have hent:=run_enterLoop_outer (P:=P) (w:=w) fn a.tmps ps as bd;generalize (w.alloc (.deferred (wh []))).alloc (.loop { state := .ready,pending:=wj,fn:=fn,tmps:=a.tmps,params:=ps,assign:=as,body:=bd,defers:=w.heap.size })=W1 at *
      refine⟨w.heap.size+1,[{ target := .collected w.heap.size,args := #[] }],W1,{ target := .fn (.func f') captured,args:=first++#[wm.func (.yield (w.heap.size+1)) #[] #[]] },W1,f',(first++#[wm.func (.yield (w.heap.size+1)) #[] #[]])++captured,W1,hent,?_,λ_ _=>trivial,?_,λhd=>by simp[Fc,Fence.wide]at hd,?_⟩
      ·simp only[resolve,Deferred.ofValue,hg,vg];simp[Act.eval]
      ·unfold DK at hb;split at hb
       ·rename_i fn' hfn;simp only[zY,zJ]at hb;obtain⟨hb1,hb2⟩:=hb;have hb3:fn'.body.isNone=wl:=by cases hq:fn'.body<;>simp_all
        simp only[invoke,callFunc,vf,vg,zT,run_program,hfn,hb2,hb3,yZ,vq]
       ·cases hb
      ·have ha:(first++#[wm.func (.yield (w.heap.size+1)) #[] #[]])++captured=(first.toList++([wm.func (.yield (w.heap.size+1)) #[] #[]]++captured.toList)).toArray:=by apply vn;simp
       rw[ha];refine CallsIn.mono (callsIn_wide.2 h) ?_;rintro e w' ⟨v,rfl,rec,hrec,hst,hq⟩;refine⟨_,_,run_endLoop hrec hst,?_⟩;have he':Df n ((Es,.int .i64 (w.heap.size:Int))::env) { a with defers:=[{ target := .collected w.heap.size,args := #[] }]++a.defers }:=by
        refine⟨?_,he.size,λt v hv=>?_⟩
        ·have hm0:Ff env=[]:=by unfold Ff;rw[hmk]
         have hm1:Ff ((Es,.int .i64 (w.heap.size:Int))::env)=[{ target := .collected w.heap.size,args := #[] }]:=by unfold Ff;rw[H5,vy rfl];simp
         rw[hm1,he.defers,hm0];rfl
        ·obtain⟨ht,hv⟩:=HJ hv;rw[H5,vx (vv ht)]at hv;exact he.has t v (Oz ht hv)
       unfold SW at hq;cases hp:rec.pending with
       | none=>rw[hp]at hq;exact⟨_,he',hq⟩
       | some c=>
        rw[hp]at hq;cases c with
        | ret=>exact wpIn_ret ⟨_,he',hq⟩
        | exit id=>exact wpIn_exit ⟨_,he',hq⟩
        | _=>exact hq.elim
    ·exact h.elim
  ·exact h.elim
 | refuse why=>intro Q env a w he h;exact h.elim
def Qx{body:Code}{Q:QE}{env:C1}{w:wn}(h:Dl A P n body (N4 A P n body Q) env w):Lt P n A.rd body Q env w:=by
 intro a he b k cs hro;obtain⟨e,a₁,w₁,hq,harr⟩:=Gz body _ env a w he h b (.inLoop body::k) cs hro trivial (Qf _ _);cases e with
 | normal=>
  obtain⟨env₁,he₁,hq⟩:=hq;simp only[N4]at hq;obtain⟨env₂,he₂,hq⟩:=Ic hq he₁;obtain⟨e₂,a₂,w₂,hq₂,harr₂⟩:=hq a₁ he₂ b k cs hro;exact⟨e₂,a₂,w₂,hq₂,.of_steps (StepsIn.trans harr (.one (fenced_calm (n:=0) trivial (Qf _ _) rfl) stepR_inLoop)) harr₂⟩
 | exit id=>exact⟨.exit id,a₁,w₁,hq,.pass (x := .inLoop body) rfl (λ_ _ => .inl (by simp)) harr⟩
 | goto l=>exact⟨.goto l,a₁,w₁,hq,.pass (x := .inLoop body) rfl (λ_ _ => .inl (by simp)) harr⟩
 | ret=>exact⟨.ret,a₁,w₁,hq,.pass (x := .inLoop body) rfl (λ_ _ => .inl (by simp)) harr⟩
 | panic ch=>exact hq.elim
 | outgrown=>exact hq.elim
end
def Gc(A:Cg)(P:wq)(n:Nat)(F:Code->QE->Prop):List Nat->Code->QE->Prop
 | [],c,Q=>F c Q
 | i::p,c,Q=>match c,i with
  | .seq x y,0=>Gc A P n F p x (N5 A (I8 y) (λenv w=>Dl A P n y Q env w) Q)
  | .seq _ y,_=>Gc A P n F p y Q
  | .cond _ x _,0=>Gc A P n F p x Q
  | .cond _ _ y,_=>Gc A P n F p y Q
  | .block id c,_=>Gc A P n F p c (NV id Q)
  | .loop c,_=>Gc A P n F p c (N4 A P n c Q)
  | .scope c,0=>Gc A P n F p c (LZ A P n c Q)
  | .scope c,l=>match findLabel c (l-1) with
   | some rest=>Gc A P n F p rest (LZ A P n c Q)
   | none=>False
  | _,_=>False
theorem Fh{A:Cg}{P:wq}{n:Nat}{F G:Code->QE->Prop}(hFG:∀c Q,F c Q->G c Q):∀(p:List Nat) (c:Code) (Q:QE),Gc A P n F p c Q->Gc A P n G p c Q
 | [],c,Q,h=>hFG c Q h
 | i::p,c,Q,h=>by
  cases c with
  | seq x y=>cases i with
   | zero=>exact Fh hFG p _ _ h
   | succ i=>exact Fh hFG p _ _ h
  | cond v x y=>cases i with
   | zero=>exact Fh hFG p _ _ h
   | succ i=>exact Fh hFG p _ _ h
  | block id c=>exact Fh hFG p _ _ h
  | loop c=>exact Fh hFG p _ _ h
  | scope c=>cases i with
   | zero=>exact Fh hFG p _ _ h
   | succ i=>
    unfold Gc at h ⊢;simp only at h ⊢;cases hl:findLabel c (i+1-1) with
    | none=>rw[hl]at h;exact h.elim
    | some rest=>rw[hl]at h;exact Fh hFG p _ _ h
  | _=>exact h.elim
def Ov(A:Cg)(P:wq)(n:Nat)(env:C1)(w:wn):Code->QE->Prop
 | .loop b,Q=>Lt P n A.rd b Q env w
 | _,_=>False
def Wi(A:Cg)(P:wq)(n:Nat)(env:C1)(w:wn):Code->QE->Prop
 | .loop b,Q=>Dl A P n b (N4 A P n b Q) env w
 | _,_=>False
def BW{A:Cg}{P:wq}{n:Nat}{env:C1}{w:wn}{p:List Nat}{c:Code}{Q:QE}(h:Gc A P n (Wi A P n env w) p c Q):Gc A P n (Ov A P n env w) p c Q:=
 Fh (λc Q h=>by cases c<;>first | exact Qx h | exact h.elim) p c Q h
def Mc:List wm->wm
 | [v]=>v
 | vs => .tuple vs.toArray
def Jf(P:wq):List ResultVar->C1->wn->(List wm->Prop)->Prop
 | [],_,_,k=>k []
 | .tmp t::r,env,w,k=>match Hs env t with
  | some v=>Jf P r env w λvs=>k (v::vs)
  | none=>False
 | .cell x t::r,env,w,k=>match Hs env x,Lz P t,Hq P t with
  | some p,some wk,some n=>Ak n p w λv _=>Jf P r env w λvs=>k (v::vs)
  | some p,some wl,_=>Ac p w λv _=>Jf P r env w λvs=>k (v::vs)
  | _,_,_=>False
def LH(P:wq)(rs:List ResultVar)(env:C1)(w:wn)(K:VK):Prop:=
 match lk env Es with
 | none=>Jf P rs env w λvs=>K (Mc vs) w
 | some (.int _ D)=>w.heap[D.toNat]?=some (.deferred (some []))/\Jf P rs env (w.putObj D.toNat (.deferred wj)) λvs=>K (Mc vs) (w.putObj D.toNat (.deferred wj))
 | some _=>False
def XU(P:wq)(rs:List ResultVar)(K:VK):QE:=λe env w=>match e with
 | .normal=>LH P rs env w K
 | .ret=>LH P rs env w K
 | _=>False
def HY:List wm->Nat->C1
 | [],_=>[]
 | v::r,i=>(i,v)::HY r (i+1)
def Vg(A:Cg)(P:wq)(f:FuncId)(args:List wm)(w:wn)(K:VK):Prop:=
 match P.funcs[f]? with
 | some fn=>match fn.body with
  | some c=>cond (Nat.ble args.length fn.ntmps && Nat.ble args.length 1000 && A.rd.isNone) (Dl A P fn.ntmps c (XU P fn.results.toList K) (HY args 0) w) False
  | none=>False
 | none=>False
def JO(a:Act):ResultVar->Sem wm
 | .tmp t=>pure (a.tmps.getD t undef)
 | .cell x t=>do loadVar t (<-asAddr (a.tmps.getD x undef))
theorem Jg{P:wq}{n:Nat}{env:C1}{a:Act}{w:wn}(he:Df n env a):∀(rs:List ResultVar) (k:List wm->Prop),Jf P rs env w k->
  ∃vs,(rs.mapM (JO a)).run P w=.ok vs w/\k vs
 | [],k,h=>⟨[],by simp,h⟩
 | .tmp t::r,k,h=>by
  simp only[Jf]at h;split at h
  ·rename_i v hv;obtain⟨vs,hr,hk⟩:=Jg he r _ h;refine⟨v::vs,?_,hk⟩;have:=he.has t v hv;have e:a.tmps.getD t undef=v:=by simp[this]
   simp only[List.mapM_cons,JO,vf,vg,zT,hr,e]
  ·exact h.elim
 | .cell x t::r,k,h=>by
  simp only[Jf]at h;split at h
  ·rename_i p m hp hag hm;obtain⟨ad,cs,rfl,hc,h⟩:=h;obtain⟨vs,hr,hk⟩:=Jg he r _ h;refine⟨_,?_,hk⟩;have e:a.tmps.getD x undef=.pointer (wh ad):=by simp[he.has x _ hp]
   simp only[List.mapM_cons,JO,vf,e,asAddr,vg,zT,loadVar,Gf hag,vu,DF hm,loadCells,GQ P w ad m 0 #[] cs hc,hr];simp
  ·rename_i p q hp hag;obtain⟨ad,v,rfl,hc,h⟩:=h;obtain⟨vs,hr,hk⟩:=Jg he r _ h;refine⟨_,?_,hk⟩;have e:a.tmps.getD x undef=.pointer (wh ad):=by simp[he.has x _ hp]
   simp only[List.mapM_cons,JO,vf,e,asAddr,vg,zT,loadVar,Gf hag,yZ,vq,run_load,hc,hr]
  ·exact h.elim
def KG{P:wq}{n:Nat}{env:C1}{a:Act}{w:wn}{fn:Func}{K:List wm->Prop}(he:Df n env a)(h:Jf P fn.results.toList env w K):
  ∃vs,(results fn a.tmps).run P w=.ok (Mc vs) w/\K vs:=by
 obtain⟨vs,hr,hk⟩:=Jg he _ _ h;refine⟨vs,?_,hk⟩;have hres:results fn a.tmps=(do
   let vs <-fn.results.mapM (JO a)
   pure (if h:vs.size=1 then vs[0] else .tuple vs)):=by unfold results;congr 1
 rw[hres,Array.mapM_eq_mapM_toList];simp only[vf,Sem.run_map];rw[hr];simp only[zT,vg,Result.ok.injEq,and_true]
 match vs with
 | []=>rfl
 | [v]=>rfl
 | v::u::r=>simp[Mc]
theorem KP:∀(l:List wm) (i t:Nat) (v:wm),lk (HY l i) t=wh v->i<=t/\l[t-i]?=wh v
 | [],i,t,v,h=>by simp[HY,lk]at h
 | u::l,i,t,v,h=>by
  simp only[HY]at h;rw[H5]at h;by_cases hit:i=t
  ·subst hit;simp only[vu,zS]at h;subst h;simp
  ·rw[vx hit]at h;obtain⟨h1,h2⟩:=KP l (i+1) t v h;refine⟨by omega,?_⟩;have:t-i=(t-(i+1))+1:=by omega
   rw[this,xV];exact h2
def BK{A:Cg}{P:wq}{f:FuncId}{args:List wm}{w:wn}{K:VK}(h:Vg A P f args w K):I P f args.toArray w K:=by
 unfold Vg at h;split at h
 ·rename_i fn hfn;split at h
  ·rename_i c hc;cases hb:(Nat.ble args.length fn.ntmps && Nat.ble args.length 1000 && A.rd.isNone) with
   | false=>rw[hb]at h;exact h.elim
   | true=>
    rw[hb]at h;simp only[vp]at h;simp only[zY,xQ]at hb;obtain⟨⟨hb1,hb2⟩,hrd⟩:=hb;have hle:args.length<=fn.ntmps:=yN hb1;have hle2:args.length<=1000:=yN hb2;unfold I;refine callsIn_wide.1 (callsIn_of_wp_marks (n:=0) hfn hc trivial ?_);have hmk:Ff (HY args 0)=[]:=by
     unfold Ff;cases hl:lk (HY args 0) Es with
     | none=>rfl
     | some v=>
      have:=(KP args 0 Es v hl).2;have:=(xM.1 this).1;simp only[Es,Nat.sub_zero]at this;omega
    have he:Df fn.ntmps (HY args 0) { tmps:=args.toArray++Array.replicate (fn.ntmps-args.toArray.size) undef,defers:=[] }:=by refine⟨hmk.symm,by simp;omega,λt v hv=>?_⟩;obtain⟨_,h2⟩:=KP args 0 t v (HJ hv).2;simp only[Nat.sub_zero]at h2;have hlt:t<args.length:=(xM.1 h2).1;rw[xA (by simpa using hlt)];simpa using h2
    have leave:∀(env:C1) (a:Act) (w:wn),Df fn.ntmps env a->LH P fn.results.toList env w K->LeavesInM Fence.wide 0 P fn a.tmps (λe w'=>∃v,e=.returned v/\K v w') a.defers .returning w:=by
     intro env a w he hq;unfold LH at hq;rw[he.defers];unfold Ff;split at hq
     ·rename_i hl;obtain⟨vs,hr,hk⟩:=KG (fn:=fn) he hq;rw[hl];exact⟨_,hr,_,rfl,hk⟩
     ·rename_i D hl;obtain⟨hD,hq⟩:=hq;obtain⟨vs,hr,hk⟩:=KG (fn:=fn) he hq;rw[hl];exact⟨by simp,.inl ⟨_,_,rfl,run_takeDeferred hD,_,hr,_,rfl,hk⟩⟩
     ·exact hq.elim
    have hs:=Gz c _ _ _ w he h;rw[hrd]at hs;refine wpIn_mono hs λe a w hq=>?_;cases e with
    | normal=>
     obtain⟨env,he,hq⟩:=hq;exact leave env a w he hq
    | ret=>
     obtain⟨env,he,hq⟩:=hq;exact leave env a w he hq
    | exit id=>obtain⟨env,he,hq⟩:=hq;exact hq.elim
    | goto l=>obtain⟨env,he,hq⟩:=hq;exact hq.elim
    | panic ch=>exact hq.elim
    | outgrown=>exact hq.elim
  ·exact h.elim
 ·exact h.elim
def F2:List Nat->Code->Code
 | [],c=>c
 | i::p,c=>match c,i with
  | .seq x _,0=>F2 p x
  | .seq _ y,_=>F2 p y
  | .cond _ x _,0=>F2 p x
  | .cond _ _ y,_=>F2 p y
  | .block _ c,_=>F2 p c
  | .loop c,_=>F2 p c
  | .scope c,_=>F2 p c
  | c,_=>c
def Xx:Code->Code
 | .rangeFunc _ _ x _=>x
 | c=>c
def X3:Code->Code
 | .rangeFunc _ _ _ x=>x
 | c=>c
def B1(l:Nat)(w:wn)(F:wn->Prop):Prop:=∃r,w.heap[l]?=wh (.loop r)/\r.state=.ready/\F (w.putObj l (.loop { r with state := .busy }))
def Bz(l:Nat)(pend:Option Code)(b:Bool)(st:LoopState)(w:wn)(K:VK):Prop:=∃r,w.heap[l]?=wh (.loop r)/\K (.bool b) (w.putObj l (.loop { r with state:=st,pending:=pend }))
def B2(j:Option Code)(a b:Prop)(f:Nat->Prop):Prop:=match j with
 | none=>a
 | some .ret=>b
 | some (.exit id)=>f id
 | _=>False
def Be(v:wm)(w:wn)(F:wn->Prop):Prop:=match v with
 | .int _ D=>w.heap[D.toNat]?=wh (.deferred (wh []))/\F (w.putObj D.toNat (.deferred wj))
 | _=>False
def OH(l:Nat)(K:VK):QE:=λe _ w=>match e with
 | .normal=>∃r,w.heap[l]?=wh (.loop r)/\K (.bool wk) (w.putObj l (.loop { r with state := .ready,pending:=wj }))
 | .ret=>∃r,w.heap[l]?=wh (.loop r)/\K (.bool wl) (w.putObj l (.loop { r with state := .done,pending:=wh .ret }))
 | .exit id=>∃r,w.heap[l]?=wh (.loop r)/\K (.bool wl) (w.putObj l (.loop { r with state := .done,pending:=wh (.exit id) }))
 | _=>False
def beginQ(A:Cg)(P:wq)(n l:Nat)(bd:Code)(K:VK):QE:=λe env w=>match e with
 | .normal=>∃r,w.heap[l]?=wh (.loop r)/\r.state=.ready/\Dl A P n bd (OH l K) env (w.putObj l (.loop { r with state := .busy }))
 | _=>False
def WC(A:Cg)(P:wq)(n l:Nat)(as bd:Code)(env:C1)(w:wn)(K:VK):Prop:=
 Dl A P n as (beginQ A P n l bd K) env w
def putPs:List (Nat × wm)->C1->C1
 | [],env=>env
 | (t,v)::r,env=>putPs r ((t,v)::env)
theorem Df.putPs{n:Nat}:∀(l:List (Nat × wm)) (env:C1) (a:Act),(∀x∈l,x.1<n/\x.1≠Es)->Df n env a->
  Df n (putPs l env) { a with tmps:=l.foldl (λtmps x=>tmps.setIfInBounds x.1 x.2) a.tmps }
 | [],env,a,_,h=>h
 | (t,v)::r,env,a,hl,h=>by
  have h0:=hl (t,v) (by simp);have h1:=h.put v h0.1 h0.2;exact Df.putPs r _ _ (λx hx=>hl x (by simp[hx])) h1
def OY{A:Cg}{P:wq}{n l:Nat}{r:Loop}{w:wn}{args:Array wm}{env:C1}{K:VK}(hA:A.rd=wh l)(hr:w.heap[l]?=wh (.loop r))(hn:r.tmps.size=n)(hps:args.size=r.params.size)(henv:∀t v,Hs env t=wh v->r.tmps[t]?=wh v)(hmk:lk env Es=wj)(hp:∀t∈r.params.toList,t<n/\t≠Es)(h:WC A P n l r.assign r.body (putPs (r.params.toList.zip args.toList) env) w K):Bh P l args w K:=by
 refine⟨_,_,_,_,run_yield hr hps,?_⟩;have h0:Df n env { tmps:=r.tmps,defers:=[] }:=⟨by simp[Ff,hmk],hn,henv⟩;have h1:=Df.putPs (r.params.toList.zip args.toList) env _ (λx hx=>hp x.1 (List.of_mem_zip hx).1) h0;have e:(r.params.zip args).foldl (λtmps (x:Nat × wm)=>tmps.setIfInBounds x.1 x.2) r.tmps=(r.params.toList.zip args.toList).foldl (λtmps x=>tmps.setIfInBounds x.1 x.2) r.tmps:=by rw[<-Array.foldl_toList,Array.toList_zip]
 have hs:=Gz r.assign _ _ _ w h1 h;rw[hA]at hs;refine roundIn_of_wpIn (F:=Fence.wide) (n:=0) trivial ?_;rw[show ((r.params.zip args).foldl (λtmps (x:Nat × wm)=>match x with | (t,a)=>tmps.setIfInBounds t a) r.tmps)=(r.params.zip args).foldl (λtmps (x:Nat × wm)=>tmps.setIfInBounds x.1 x.2) r.tmps from rfl,e];refine wpIn_mono hs λe a w hq=>?_;cases e with
 | normal=>
  obtain⟨env',he',r',hr',hst,hq⟩:=hq;refine⟨_,run_beginRound hr' hst,?_⟩;have hs:=Gz r.body _ _ _ _ he' hq;rw[hA]at hs;refine wpIn_mono hs λe a w hq=>?_;cases e with
  | normal=>obtain⟨_,_,r2,hr2,hk⟩:=hq;exact⟨_,_,run_endRound wj hr2,_,rfl,hk⟩
  | ret=>obtain⟨_,_,r2,hr2,hk⟩:=hq;exact⟨_,_,run_endRound (wh .ret) hr2,_,rfl,hk⟩
  | exit id=>obtain⟨_,_,r2,hr2,hk⟩:=hq;exact⟨_,_,run_endRound (wh (.exit id)) hr2,_,rfl,hk⟩
  | goto l=>obtain⟨_,_,hq⟩:=hq;exact hq.elim
  | panic c=>exact hq.elim
  | outgrown=>exact hq.elim
 | ret=>obtain⟨_,_,hq⟩:=hq;exact hq.elim
 | exit id=>obtain⟨_,_,hq⟩:=hq;exact hq.elim
 | goto l=>obtain⟨_,_,hq⟩:=hq;exact hq.elim
 | panic c=>exact hq.elim
 | outgrown=>exact hq.elim
section
open Go.RowKit
structure Fr(S:List Nat)(w w':wn):Prop where
 os:w'.os=w.os
 tape:w'.tape=w.tape
 output:w'.output=w.output
 size:w.heap.size<=w'.heap.size
 eq:∀b,b<w.heap.size->b∉S->w'.heap[b]?=w.heap[b]?
def Fr.refl(S:List Nat)(w:wn):Fr S w w:=⟨rfl,rfl,rfl,vl _,λ_ _ _=>rfl⟩
def Fr.trans{S:List Nat}{a b c:wn}(h:Fr S a b)(k:Fr S b c):Fr S a c:=
 ⟨k.os.trans h.os,k.tape.trans h.tape,k.output.trans h.output,va h.size k.size,λi hi hs=>(k.eq i (zG hi h.size) hs).trans (h.eq i hi hs)⟩
def Fr.then{S T:List Nat}{a b c:wn}(h:Fr S a b)(k:Fr T b c)(hT:∀x,x∈T->x∈S∨a.heap.size<=x):Fr S a c:=
 ⟨k.os.trans h.os,k.tape.trans h.tape,k.output.trans h.output,va h.size k.size,λi hi hs=>(k.eq i (zG hi h.size) (λhx=>(hT i hx).elim hs (λhle=>by omega))).trans (h.eq i hi hs)⟩
def Fr.mono{S T:List Nat}{a b:wn}(h:Fr S a b)(hs:∀x,x∈S->x∈T):Fr T a b:=⟨h.os,h.tape,h.output,h.size,λi hi ht=>h.eq i hi λhx=>ht (hs i hx)⟩
def Fr.w{S:List Nat}{a b:wn}(h:Fr [] a b):Fr S a b:=h.mono (by simp)
def Fr.below{a b:wn}(h:Fr [] a b):Below a.heap.size a b:=⟨h.os,h.tape,h.output,h.size,λi hi=>h.eq i hi (by simp)⟩
def Fr.of_below{a b:wn}(h:Below a.heap.size a b):Fr [] a b:=⟨h.os,h.tape,h.output,h.size,λi hi _=>h.block i hi⟩
def Fr.at_{S:List Nat}{w w':wn}(h:Fr S w w'){b:Nat}{o:Obj}(hb:w.heap[b]?=wh o)(hs:b∉S):w'.heap[b]?=wh o:=
 (h.eq b (xB.1 hb).1 hs).trans hb
def BP{w:wn}{b:Nat}{o:Obj}(hb:w.heap[b]?=wh o):b<w.heap.size:=(xB.1 hb).1
structure DE(w:wn)(g:Nat)(o:Obj)(w':wn):Prop where
 is:g=w.heap.size
 fr:Fr [] w w'
 at_:w'.heap[g]?=wh o
 sz:w'.heap.size=w.heap.size+1
def DE.mk'(w:wn)(o:Obj):DE w w.heap.size o (w.alloc o) where
 is:=rfl
 fr := .of_below ((Below.refl _ w).alloc (vl _) o)
 at_:=by show (w.heap.push o)[w.heap.size]?=_;simp
 sz:=by simp
def DE.ne{w w':wn}{g b:Nat}{o:Obj}(h:DE w g o w')(hb:b<w.heap.size):b≠g:=by have:=h.is;omega
structure H9(w:wn)(g:Nat)(o:Obj)(w':wn):Prop where
 fr:Fr [g] w w'
 at_:w'.heap[g]?=wh o
 sz:w'.heap.size=w.heap.size
def Fr.drew(w:wn):Fr [] w { w with drawn:=w.drawn+1 }:=⟨rfl,rfl,rfl,vl _,λ_ _ _=>rfl⟩
def add_mk(g o n:Nat):(⟨g,o,wj⟩:Addr).add n=⟨g,o+n,wj⟩:=by unfold Addr.add;split<;>simp_all
def Eu{w:wn}{g o:Nat}{cs:Array wm}{e:TypeId}{fz:Nat × Nat}(h:w.heap[g]?=wh (.cells cs e fz)):w.cell? ⟨g,o,wj⟩=cs[o]?:=by simp[wn.cell?,h]
def MR{w:wn}{g o:Nat}{cs:Array wm}{e:TypeId}(h:w.heap[g]?=wh (.cells cs e (0,0))):w.frozen? ⟨g,o,wj⟩=wl:=by simp[wn.frozen?,h]
theorem Jd{w:wn}{g:Nat}{cs:Array wm}{e:TypeId}{fz:Nat × Nat}(h:w.heap[g]?=wh (.cells cs e fz)):∀(n o i:Nat),o+i+n<=cs.size->FN w ⟨g,o,wj⟩ i n=wh ((cs.toList.drop (o+i)).take n)
 | 0,o,i,hn=>by simp[FN]
 | n+1,o,i,hn=>by
  have ih:=Jd h n o (i+1) (by omega);have hlt:o+i<cs.size:=by omega
  simp only[FN,add_mk,Eu h,ih,xH hlt];have hd:cs.toList.drop (o+i)=cs[o+i]::cs.toList.drop (o+(i+1)):=by rw[show o+(i+1)=o+i+1 by omega];have:=xJ (l:=cs.toList) (i:=o+i) (by simpa using hlt);simpa using this
  rw[hd];simp
def CO(cs:List wm)(o:Nat)(vs:List wm):List wm:=cs.take o++vs++cs.drop (o+vs.length)
def KK{w:wn}{g o:Nat}{cs:Array wm}{e:TypeId}{fz:Nat × Nat}(h:w.heap[g]?=wh (.cells cs e fz))(v:wm):
  H9 w g (.cells (cs.setIfInBounds o v) e fz) (w.setCell ⟨g,o,wj⟩ v):=by
 refine⟨⟨rfl,rfl,rfl,by simp[wn.setCell],λb _ hb=>?_⟩,?_,by simp[wn.setCell]⟩
 ·simp only[zF]at hb;exact Below.heap_setCell w ⟨g,o,wj⟩ v b hb
 ·simp[wn.setCell,yE,h]
def H9.trans{w w1 w2:wn}{g:Nat}{o1 o2:Obj}(h:H9 w g o1 w1)(k:H9 w1 g o2 w2):H9 w g o2 w2:=
 ⟨h.fr.trans k.fr,k.at_,k.sz.trans h.sz⟩
section
variable{P:wq}{w:wn}{K:VK}
def Ar{o:Obj}(h:∀g w',DE w g o w'->K (.pointer (wh ⟨g,0,wj⟩)) w'):Aq o w K:=h _ _ (DE.mk' w o)
def Ad{g o:Nat}{cs:Array wm}{e:TypeId}{fz:Nat × Nat}{v:wm}(hb:w.heap[g]?=wh (.cells cs e fz))(hv:cs[o]?=wh v)(h:K v w):Ac (.pointer (wh ⟨g,o,wj⟩)) w K:=
 ⟨_,v,rfl,by rw[Eu hb];exact hv,h⟩
def AS{n g o:Nat}{cs:Array wm}{e:TypeId}{fz:Nat × Nat}{vs:List wm}(hb:w.heap[g]?=wh (.cells cs e fz))(hn:o+n<=cs.size)(hv:(cs.toList.drop o).take n=vs)(h:K (.agg vs.toArray) w):Ak n (.pointer (wh ⟨g,o,wj⟩)) w K:=
 ⟨_,vs,rfl,by rw[Jd hb n o 0 (by omega)];simpa using hv,h⟩
def A3{n g:Nat}{cs:Array wm}{e:TypeId}{fz:Nat × Nat}(hb:w.heap[g]?=wh (.cells cs e fz))(hn:cs.size=n)(h:K (.agg cs) w):Ak n (.pointer (wh ⟨g,0,wj⟩)) w K:=
 AS hb (by omega) (vs:=cs.toList) (by subst hn;rw[List.drop_zero, <-Array.length_toList,j4]) (by simpa using h)
def Au{S:wn->Prop}{g o:Nat}{v:wm}(hS:∀w',S w'->∃cs e fz,w'.heap[g]?=wh (.cells cs e fz)/\cs[o]?=wh v)(h:K v w):An S (.pointer (wh ⟨g,o,wj⟩)) w K:=
 ⟨_,v,rfl,λw' hw=>by obtain⟨cs,e,fz,hb,hv⟩:=hS w' hw;rw[Eu hb];exact hv,h⟩
def AO{S:wn->Prop}{n g o:Nat}{vs:List wm}(hS:∀w',S w'->∃cs e fz,w'.heap[g]?=wh (.cells cs e fz)/\o+n<=cs.size/\(cs.toList.drop o).take n=vs)(h:K (.agg vs.toArray) w):AM S n (.pointer (wh ⟨g,o,wj⟩)) w K:=
 ⟨_,vs,rfl,λw' hw=>by obtain⟨cs,e,fz,hb,hn,hv⟩:=hS w' hw;rw[Jd hb n o 0 (by omega)];simpa using hv,h⟩
theorem Mi{g:Nat}{e:TypeId}{K:wn->Prop}:∀(vs:List wm) (o i:Nat) (cs:Array wm) (w:wn),w.heap[g]?=wh (.cells cs e (0,0))->(∀v∈vs,v.oneCell'=wk)->o+i+vs.length<=cs.size->
  (∀w',H9 w g (.cells (CO cs.toList (o+i) vs).toArray e (0,0)) w'->K w')->Ky vs i ⟨g,o,wj⟩ w K
 | [],o,i,cs,w,hb,_,_,h=>by
  refine h w ⟨Fr.refl _ _,?_,rfl⟩;simp only[CO,j8,m7,u9,yL];exact hb
 | v::vs,o,i,cs,w,hb,hv,hn,h=>by
  simp only[d9]at hn;have hlt:o+i<cs.size:=by omega
  refine⟨hv v (by simp),⟨cs[o+i],?_⟩,?_,?_⟩
  ·rw[add_mk,Eu hb,xH hlt]
  ·rw[add_mk];exact MR hb
  ·rw[add_mk];have hu:=KK (o:=o+i) hb v;refine Mi vs o (i+1) _ _ hu.at_ (λu hu=>hv u (by simp[hu])) (by simp;omega) λw' hw=>h w' ?_;have:=hu.trans hw;have he:CO (cs.setIfInBounds (o+i) v).toList (o+(i+1)) vs=CO cs.toList (o+i) (v::vs):=by
    simp only[CO,Array.toList_setIfInBounds,d9];rw[show o+(i+1)=o+i+1 by omega,List.take_set,List.drop_set,vy (by omega),zR];rw[xS (by simpa using hlt)];simp only[zH];rw[List.set_append];simp only[i8,Array.length_toList];rw[vx (by omega)];have:o+i-min (o+i) cs.size=0:=by omega
    rw[this];simp[uy,Nat.add_comm 1]
   rw[he]at this;exact this
def Bl{n g o:Nat}{e:TypeId}{cs:Array wm}{x:wm}{K:wn->Prop}(hb:w.heap[g]?=wh (.cells cs e (0,0)))(hx:x.cells.size=n)(h1:∀v∈x.cells.toList,v.oneCell'=wk)(hn:o+n<=cs.size)(h:∀w',H9 w g (.cells (CO cs.toList o x.cells.toList).toArray e (0,0)) w'->K w'):Aj n (.pointer (wh ⟨g,o,wj⟩)) x w K:=
 ⟨_,rfl,hx,Mi _ o 0 cs w hb h1 (by simp;omega) (by simpa using h)⟩
def AI{g o:Nat}{e:TypeId}{cs:Array wm}{x:wm}{K:wn->Prop}(hb:w.heap[g]?=wh (.cells cs e (0,0)))(hx:x.cells = #[x])(h1:x.oneCell'=wk)(hn:o<cs.size)(h:∀w',H9 w g (.cells (cs.setIfInBounds o x) e (0,0)) w'->K w'):Aj 1 (.pointer (wh ⟨g,o,wj⟩)) x w K:=by refine⟨_,rfl,by simp[hx],?_⟩;rw[hx];refine⟨h1,⟨cs[o],by rw[add_mk,u9,Eu hb,xH hn]⟩,by rw[add_mk];exact MR hb,?_⟩;rw[add_mk,u9];exact h _ (KK hb x)
def AA{n g:Nat}{e:TypeId}{cs:Array wm}{x:wm}{K:wn->Prop}(hb:w.heap[g]?=wh (.cells cs e (0,0)))(hx:x.cells.size=n)(h1:∀v∈x.cells.toList,v.oneCell'=wk)(hn:cs.size=n)(h:∀w',H9 w g (.cells x.cells e (0,0)) w'->K w'):Aj n (.pointer (wh ⟨g,0,wj⟩)) x w K:=by
 refine Bl hb hx h1 (by omega) λw' hw=>h w' ?_;have:(CO cs.toList 0 x.cells.toList).toArray=x.cells:=by simp only[CO,List.take_zero,n9,vd];rw[xZ (by simp;omega)];simp
 rwa [this]at hw
def A9{F:(wn->Prop)->wn->Prop}(S:wn->Prop)(h:∀w',Fr [] w w'->w'.heap=w.heap->S w'/\F S w'):A2 w F:=
 ⟨S,(h _ (Fr.drew w) rfl).1,(h _ (Fr.drew w) rfl).2⟩
def A4{s:Sem wm}{v:wm}{w':wn}(h:s.run P w=.ok v w')(hk:K v w'):Am P s w K:=⟨v,w',h,hk⟩
end
section
variable{P:wq}{w:wn}{K:VK}
def B7(b:Bool)(A B:Prop):Af (.bool b) A B↔(b=wk->A)/\(b=wl->B):=by
 constructor
 ·rintro⟨t,ht,h⟩;cases ht;exact h
 ·intro h;exact⟨b,rfl,h⟩
def Ah(A B:Prop):Af (.bool wk) A B↔A:=by simp[B7]
def Ag(A B:Prop):Af (.bool wl) A B↔B:=by simp[B7]
def A1(a b:wm):Aw (wh (.bool wk)) (wh a) (wh b) w K↔K a w:=by
 constructor
 ·rintro⟨t,ht,v,hv,h⟩;cases ht;cases hv;exact h
 ·intro h;exact⟨wk,rfl,a,rfl,h⟩
def Az(a b:wm):Aw (wh (.bool wl)) (wh a) (wh b) w K↔K b w:=by
 constructor
 ·rintro⟨t,ht,v,hv,h⟩;cases ht;cases hv;exact h
 ·intro h;exact⟨wl,rfl,b,rfl,h⟩
def Av(b:Bool):A8 (.bool b) w K↔K (.bool !b) w:=by
 constructor
 ·rintro⟨t,ht,h⟩;cases ht;exact h
 ·intro h;exact⟨b,rfl,h⟩
def Ai(off g o:Nat):Ab off (.pointer (wh ⟨g,o,wj⟩)) w K↔K (.pointer (wh ⟨g,o+off,wj⟩)) w:=by
 constructor
 ·rintro⟨a,ha,h⟩;cases ha;rwa [add_mk]at h
 ·intro h;exact⟨_,rfl,by rwa [add_mk]⟩
def Al(a:Addr):Ae (.pointer (wh a)) w K↔K (.pointer (wh a)) w:=by simp[Ae,LN]
def AX(op:BinOp)(k:IntKind)(a b:Int):U op (.int k a) (.int k b) w K↔∃v,FK op k a b=wh v/\K v w:=by
 constructor
 ·rintro⟨k',a',b',v,h1,h2,h3,h⟩;cases h1;cases h2;exact⟨v,h3,h⟩
 ·rintro⟨v,h3,h⟩;exact⟨k,a,b,v,rfl,rfl,h3,h⟩
def A7(k:IntKind)(a b:Int):U .add (.int k a) (.int k b) w K↔K (.int k (k.wrap (a+b))) w:=by simp[AX,FK]
def AN(k:IntKind)(a b:Int):U .sub (.int k a) (.int k b) w K↔K (.int k (k.wrap (a-b))) w:=by simp[AX,FK]
def AP(k:IntKind)(a b:Int):U .mul (.int k a) (.int k b) w K↔K (.int k (k.wrap (a*b))) w:=by simp[AX,FK]
def Ay(k:IntKind)(a b:Int):U .eql (.int k a) (.int k b) w K↔K (.bool (decide (a=b))) w:=by
 have:(a == b)=decide (a=b):=by rw[j7];simp
 simp[AX,FK,this]
def AG(k:IntKind)(a b:Int):U .neq (.int k a) (.int k b) w K↔K (.bool (decide (a≠b))) w:=by
 have:(a != b)=decide (a≠b):=by rw[j7];simp
 simp only[AX,FK,this,zS,exists_eq_left']
def Ap(k:IntKind)(a b:Int):U .lss (.int k a) (.int k b) w K↔K (.bool (decide (a<b))) w:=by simp[AX,FK]
def Bd(k:IntKind)(a b:Int):U .leq (.int k a) (.int k b) w K↔K (.bool (decide (a<=b))) w:=by simp[AX,FK]
def AL(k:IntKind)(a b:Int):U .gtr (.int k a) (.int k b) w K↔K (.bool (decide (a>b))) w:=by simp[AX,FK]
def AE(k:IntKind)(a b:Int):U .geq (.int k a) (.int k b) w K↔K (.bool (decide (a≥b))) w:=by simp[AX,FK]
def Bq(k k':IntKind)(a:Int):AZ k (.int k' a) w K↔K (.int k (k.wrap a)) w:=by
 constructor
 ·rintro⟨k1,a1,h1,h⟩;cases h1;exact h
 ·intro h;exact⟨k',a,rfl,h⟩
def AT(g:Option Addr)(n c:Nat):AD (.slice g n c) w K↔K (.int .i64 (n:Int)) w:=by
 constructor
 ·rintro⟨g1,n1,c1,h1,h⟩;cases h1;exact h
 ·intro h;exact⟨g,n,c,rfl,h⟩
def Bo(i:Nat)(vs:Array wm):Ao i (.tuple vs) w K↔∃v,vs[i]?=wh v/\K v w:=by
 constructor
 ·rintro⟨vs',v,h1,h2,h⟩;cases h1;exact⟨v,h2,h⟩
 ·rintro⟨v,h2,h⟩;exact⟨vs,v,rfl,h2,h⟩
def A5(a b:wm):Ao 0 (.tuple #[a,b]) w K↔K a w:=by simp[Bo]
def A6(a b:wm):Ao 1 (.tuple #[a,b]) w K↔K b w:=by simp[Bo]
def AW(a b c:wm):Ao 0 (.tuple #[a,b,c]) w K↔K a w:=by simp[Bo]
def Ba(a b c:wm):Ao 1 (.tuple #[a,b,c]) w K↔K b w:=by simp[Bo]
def AY(a b c:wm):Ao 2 (.tuple #[a,b,c]) w K↔K c w:=by simp[Bo]
def Bt(n:Nat)(g o len cap:Nat)(k:IntKind)(j:Int):AC n (.slice (wh ⟨g,o,wj⟩) len cap) (.int k j) w K↔(0<=j/\j<(len:Int))/\K (.pointer (wh ⟨g,o+j.toNat*n,wj⟩)) w:=by
 constructor
 ·rintro⟨g1,l1,c1,k1,j1,h1,h2,h3,h4,h⟩;cases h1;cases h2;rw[Go.Proofs.QV.add_mk]at h;exact⟨⟨h3,h4⟩,h⟩
 ·rintro⟨⟨h3,h4⟩,h⟩;exact⟨_,_,_,_,_,rfl,rfl,h3,h4,by rwa [Go.Proofs.QV.add_mk]⟩
def Ax(want:Bool)(F:VK->Prop):Aa want (.bool want) F w K↔F K:=by simp[Aa,Bk]
def AK(F:VK->Prop):Aa wk (.bool wl) F w K↔K undef w:=by simp[Aa,Bk]
def AJ(F:VK->Prop):Aa wl (.bool wk) F w K↔K undef w:=by simp[Aa,Bk]
def Bu(want:Bool)(F:VK->Prop):Aa want undef F w K↔K undef w:=by simp[Aa,Bk,undef]
end
def BO{n:Int}(h : -9223372036854775808<=n/\n<=9223372036854775807):IntKind.i64.wrap n=n:=by unfold IntKind.wrap IntKind.bits IntKind.signed;simp;omega
def zv:=vo @Ah (vo @Ag (vo @A1 (vo @Az (vo @Av (vo @Ai (vo @Al (vo @A7 (vo @AN (vo @AP (vo @Ay (vo @AG (vo @Ap (vo @Bd (vo @AL (vo @AE (vo @Bq (vo @AT (vo @A5 (vo @A6 (vo @AW (vo @Ba (vo @AY (vo @Ax (vo @AK (vo @AJ (vo @Bu (vo @Bool.not_true (vo @Bool.not_false (vo @Nat.zero_add (vo @decide_true @decide_false))))))))))))))))))))))))))))))
end
section
variable{P:wq}{w:wn}{t:TypeId}
def Ki{x y:Operand}{a b:wm}{r:Bool}(hg:(eqGuard .eql t x y a b).run P w=.ok () w)(hb:binOp .eql t a b=(do pure (.bool (<-Op.equal t a b))))(he:(Op.equalIn (9999+1) t a b).run P w=.ok r w):
  (do eqGuard .eql t x y a b;binOp .eql t a b:Sem wm).run P w=.ok (.bool r) w:=by have he':(Op.equal t a b).run P w=.ok r w:=he;rw[hb];simp only[vf,hg,zT,he',vg]
def PU{x y:Operand}{a b:wm}{r:Bool}(hg:(eqGuard .neq t x y a b).run P w=.ok () w)(hb:binOp .neq t a b=(do pure (.bool (!(<-Op.equal t a b)))))(he:(Op.equalIn (9999+1) t a b).run P w=.ok r w):
  (do eqGuard .neq t x y a b;binOp .neq t a b:Sem wm).run P w=.ok (.bool (!r)) w:=by have he':(Op.equal t a b).run P w=.ok r w:=he;rw[hb];simp only[vf,hg,zT,he',vg]
def Jq(d:Nat)(a:Addr){e:TypeId}(hu:P.underlying t=wh (.pointer e)):(Op.equalIn (d+1) t (.pointer (wh a)) (.pointer wj)).run P w=.ok (wl) w:=by simp[Op.equalIn,underlying,hu]
def Ck(x y:Operand)(a:Addr){e:TypeId}(hu:P.underlying t=wh (.pointer e)):(do eqGuard .eql t x y (.pointer (wh a)) (.pointer wj);binOp .eql t (.pointer (wh a)) (.pointer wj):Sem wm).run P w=.ok (.bool (wl)) w:=
 Ki (by simp[eqGuard]) rfl (Jq 9999 a hu)
def CJ(x y:Operand)(a:Addr){e:TypeId}(hu:P.underlying t=wh (.pointer e)):(do eqGuard .neq t x y (.pointer (wh a)) (.pointer wj);binOp .neq t (.pointer (wh a)) (.pointer wj):Sem wm).run P w=.ok (.bool (wk)) w:=
 PU (by simp[eqGuard]) rfl (Jq 9999 a hu)
def LB(d:Nat)(a:Option Addr)(n c:Nat){e:TypeId}(hu:P.underlying t=wh (.slice e)):(Op.equalIn (d+1) t (.slice a n c) (.slice wj 0 0)).run P w=.ok (a.isNone) w:=by cases a<;>simp[Op.equalIn,underlying,hu]
def HC(x y:Operand)(a:Option Addr)(n c:Nat){e:TypeId}(hu:P.underlying t=wh (.slice e)):(do eqGuard .eql t x y (.slice a n c) (.slice wj 0 0);binOp .eql t (.slice a n c) (.slice wj 0 0):Sem wm).run P w=.ok (.bool (a.isNone)) w:=
 Ki (by simp[eqGuard]) rfl (LB 9999 a n c hu)
def O1(at_:Array TypeId)(ty:TypeId)(k:IntKind)(a b:Int):(Builtin.min_ at_ ty #[.int k a,.int k b]).run P w=.ok (.int k (min a b)) w:=by
 have:(if b<a then b else a)=min a b:=by omega
 simp[Builtin.min_,Builtin.min2,this]
def La(at_:Array TypeId)(ty:TypeId)(k:IntKind)(a b:Int):(Builtin.max_ at_ ty #[.int k a,.int k b]).run P w=.ok (.int k (max a b)) w:=by
 have:(if a<b then b else a)=max a b:=by omega
 simp[Builtin.max_,Builtin.max2,this]
def Hi(at_:Array TypeId)(ty:TypeId)(c:Array Bool)(k:IntKind)(a b:Int):(builtin .min at_ ty c #[.int k a,.int k b]).run P w=.ok (.value (.int k (min a b))) w:=by simp only[builtin,vf,O1];rfl
def JD(at_:Array TypeId)(ty:TypeId)(c:Array Bool)(k:IntKind)(a b:Int):(builtin .max at_ ty c #[.int k a,.int k b]).run P w=.ok (.value (.int k (max a b))) w:=by simp only[builtin,vf,La];rfl
end
section
open Go.RowKit Go.ChangeShapes Go.WideShapes Go.ChangeAt
def Cp(w:wn)(v:wm)(sz:Nat)(xs:List (List wm)):Prop:=
 ∃A c,v=.slice A xs.length c/\xs.length<=c/\c<=maxLen/\(xs≠[]->∃g o cs e fz,A=wh ⟨g,o,wj⟩/\w.heap[g]?=wh (.cells cs e fz)/\∀i x,xs[i]?=wh x->x.length=sz/\∀j,j<sz->cs[o+(i*sz+j)]?=x[j]?)
def Cp.keep{w w':wn}{v:wm}{sz:Nat}{xs:List (List wm)}(h:Cp w v sz xs)(hf:Fr [] w w'):Cp w' v sz xs:=by obtain⟨A,c,rfl,h1,h2,h3⟩:=h;refine⟨A,c,rfl,h1,h2,λhx=>?_⟩;obtain⟨g,o,cs,e,fz,rfl,hg,hc⟩:=h3 hx;exact⟨g,o,cs,e,fz,rfl,hf.at_ hg (by simp),hc⟩
def Cp.len_c{P:wq}{K:VK}{w:wn}{v:wm}{sz:Nat}{xs:List (List wm)}(h:Cp w v sz xs):∃A c,v=.slice A xs.length c/\xs.length<=c:=by obtain⟨A,c,rfl,h1,_⟩:=h;exact⟨A,c,rfl,h1⟩
def Cp.le{w:wn}{v:wm}{sz:Nat}{xs:List (List wm)}(h:Cp w v sz xs):xs.length<=9223372036854775807:=by obtain⟨A,c,rfl,h1,h2,_⟩:=h;unfold maxLen at h2;omega
def AH{K:VK}{w w1:wn}{v:wm}{sz:Nat}{xs:List (List wm)}(h:Cp w1 v sz xs)(hk:K (.int .i64 (xs.length:Int)) w):AD v w K:=by obtain⟨A,c,rfl,_⟩:=h;simpa only[AT] using hk
def AU{K:VK}{w:wn}{v:wm}{sz:Nat}{xs:List (List wm)}{k:IntKind}{i:Int}(h:Cp w v sz xs){x:List wm}(h0:0<=i)(hx:xs[i.toNat]?=wh x)(hk:∀g o cs e fz,w.heap[g]?=wh (.cells cs e fz)->x.length=sz->(∀j,j<sz->cs[o+j]?=x[j]?)->K (.pointer (wh ⟨g,o,wj⟩)) w):AC sz v (.int k i) w K:=by obtain⟨A,c,rfl,h1,h2,h3⟩:=h;have hlt:i.toNat<xs.length:=(xM.1 hx).1;obtain⟨g,o,cs,e,fz,rfl,hg,hc⟩:=h3 (by intro he;rw[he]at hlt;simp at hlt);obtain⟨hl,hj⟩:=hc _ _ hx;rw[Bt];exact⟨⟨h0,by omega⟩,hk g _ cs e fz hg hl λj hjs=>by rw[uy];exact hj j hjs⟩
def Cp.take{w:wn}{A:Option Addr}{n c sz:Nat}{xs:List (List wm)}(h:Cp w (.slice A n c) sz xs)(m:Nat)(hm:m<=n):Cp w (.slice A m c) sz (xs.take m):=by
 obtain⟨A',c',he,h1,h2,h3⟩:=h;simp only[zU]at he;obtain⟨rfl,rfl,rfl⟩:=he;have hl:(xs.take m).length=m:=by rw[i8];omega
 refine⟨A,c,by rw[hl],by rw[hl];omega,h2,λhx=>?_⟩;obtain⟨g,o,cs,e,fz,rfl,hg,hc⟩:=h3 (by intro e;rw[e]at hx;simp at hx);refine⟨g,o,cs,e,fz,rfl,hg,λi x hi=>hc i x ?_⟩;rw[zD]at hi;split at hi
 ·exact hi
 ·cases hi
inductive CK where
 | int (k:IntKind)
 | bool
def CK.ok:CK->wm->Prop
 | .int k,v=>∃n,v=.int k n/\(Lit.int k n).wf=wk
 | .bool,v=>∃b,v=.bool b
def Kj(kd:TypeId->Option (List CK))(sz:TypeId->Nat):List Field->Nat->Option (List CK)
 | [],_=>wh []
 | f::fs,off=>cond (Nat.beq f.offset off) (match kd f.type with
  | some ks=>cond (Nat.beq (sz f.type) ks.length) (match Kj kd sz fs (off+ks.length) with
   | some r=>some (ks++r)
   | none=>none) none
  | none=>none) none
def IR(P:wq):Nat->TypeId->Option (List CK)
 | 0,_=>wj
 | d+1,t=>match P.underlying t with
  | some (.int k)=>some [.int k]
  | some .bool=>some [.bool]
  | some (.struct fs)=>match Kj (IR P d) P.cellsOf fs.toList 0 with
   | some ks=>cond (Nat.beq (P.cellsOf t) ks.length) (some ks) wj
   | none=>none
  | _=>wj
def Dr:List CK->List wm->Prop
 | [],[]=>True
 | k::ks,v::vs=>k.ok v/\Dr ks vs
 | _,_=>False
theorem ID:∀ {ks ks':List CK} {vs vs':List wm},Dr ks vs->Dr ks' vs'->Dr (ks++ks') (vs++vs')
 | [],_,[],_,_,h=>h
 | k::ks,_,v::vs,_,h,h'=>⟨h.1,ID h.2 h'⟩
 | [],_,_::_,_,h,_=>h.elim
 | _::_,_,[],_,h,_=>h.elim
theorem GF:∀ {ks:List CK} {vs:List wm},Dr ks vs->vs.length=ks.length
 | [],[],_=>rfl
 | k::ks,v::vs,h=>by simp[GF h.2]
 | [],_::_,h=>h.elim
 | _::_,[],h=>h.elim
section
variable{H:Type}{enc:TypeId × wm->H}{P:wq}{w:wn}{base:Nat}{spare:Nat->Bool}{held:Bool}
def Rn{t:TypeId}{fuel:Nat}{cs:List wm}{x:DataW H × List MemPlace}(ht:P.underlying t=wh .bool)(h:DataW.trod enc P w base spare held fuel t cs=wh x):∃b,cs=[.bool b]:=by
 cases fuel with
 | zero=>simp[DataW.trod]at h
 | succ n=>
  unfold DataW.trod at h;rw[ht]at h;split at h<;>simp_all
theorem Og{n:Nat}{kd:TypeId->Option (List CK)}{cs:List wm}(hkd:∀t ks cs' x,kd t=wh ks->DataW.trod enc P w base spare held n t cs'=wh x->Dr ks cs'):
  ∀(fs:List Field) (off:Nat) (ks:List CK),Kj kd P.cellsOf fs off=wh ks->off+ks.length=cs.length->(∀f∈fs,∃x,DataW.trod enc P w base spare held n f.type ((cs.drop f.offset).take (P.cellsOf f.type))=wh x)->Dr ks (cs.drop off)
 | [],off,ks,hf,hl,_=>by
  simp only[Kj,zS]at hf;subst hf;simp only[m7,u9]at hl;rw[xZ (by omega)]
  trivial
 | f::fs,off,ks,hf,hl,ht=>by
  simp only[Kj]at hf;cases h1:Nat.beq f.offset off with
  | false=>rw[h1]at hf;cases hf
  | true=>
   rw[h1]at hf;simp only[vp]at hf;have e1:f.offset=off:=yM h1;cases hk:kd f.type with
   | none=>rw[hk]at hf;cases hf
   | some k1=>
    rw[hk]at hf;simp only at hf;cases h2:Nat.beq (P.cellsOf f.type) k1.length with
    | false=>rw[h2]at hf;cases hf
    | true=>
     rw[h2]at hf;simp only[vp]at hf;have e2:P.cellsOf f.type=k1.length:=yM h2;cases hr:Kj kd P.cellsOf fs (off+k1.length) with
     | none=>rw[hr]at hf;cases hf
     | some r=>
      rw[hr]at hf;simp only[zS]at hf;subst hf;rw[zE]at hl;obtain⟨x,hx⟩:=ht f (by simp);have a1:=hkd _ _ _ _ hk hx;have a2:=Og hkd fs (off+k1.length) r hr (by omega) λf' hf'=>ht f' (by simp[hf']);rw[e1,e2]at a1;have:=ID a1 a2;rw[<-List.drop_drop,yL]at this;exact this
theorem JY:∀(d:Nat) {t:TypeId} {ks:List CK} {fuel:Nat} {cs:List wm} {x:DataW H × List MemPlace},IR P d t=wh ks->DataW.trod enc P w base spare held fuel t cs=wh x->Dr ks cs
 | 0,_,_,_,_,_,hk,_=>by simp[IR]at hk
 | d+1,t,ks,fuel,cs,x,hk,h=>by
  simp only[IR]at hk;split at hk
  ·rename_i k hu;simp only[zS]at hk;subst hk;obtain⟨n,rfl,_,hw⟩:=DataW.trod_int hu h;exact⟨⟨n,rfl,hw⟩,trivial⟩
  ·rename_i hu;simp only[zS]at hk;subst hk;obtain⟨b,rfl⟩:=Rn hu h;exact⟨⟨b,rfl⟩,trivial⟩
  ·rename_i fs hu;split at hk
   ·rename_i ks' hf;cases hb:Nat.beq (P.cellsOf t) ks'.length with
    | false=>rw[hb]at hk;cases hk
    | true=>
     rw[hb]at hk;simp only[vp,zS]at hk;subst hk;obtain⟨xs,n,rfl,rfl,hl,hxl,hx⟩:=DataW.trod_struct hu h;have:=Og (n:=n) (cs:=cs) (λt ks cs' x hk hx=>JY d hk hx) fs.toList 0 ks' hf (by rw[hl,yM hb];omega) λf hf=>by
      obtain⟨i,hi,rfl⟩:=yW hf;have hi':i<fs.size:=by simpa using hi
      have:=hx i fs[i] (by simp[hi']);simp only[Array.getElem_toList];rw[this,xS (by omega)];exact⟨_,rfl⟩
     simpa using this
   ·cases hk
  ·cases hk
def SM{t e:TypeId}{d:Nat}{ks:List CK}{v:wm}{dd:DataW H}{ps:List MemPlace}(ht:P.underlying t=wh (.slice e))(hk:IR P d e=wh ks)(hc:P.cellsOf e=ks.length)(hpos:0<ks.length)(h:DataW.Trod enc P w base spare held t v dd ps)(hv:v.cells.toList=[v]):∃xs,Cp w v ks.length xs/\∀x∈xs,Dr ks x:=by
 obtain⟨fuel,h⟩:=h;rw[hv]at h;rcases Deep.open_slice ht h with⟨h1,_⟩|⟨a,len,cap,m,n,D,Pl,h1,hb,hl,hm,rfl,_,hx⟩
 ·simp only[List.cons.injEq,and_true]at h1;subst h1;exact⟨[],⟨wj,0,rfl,by simp,by simp[maxLen],λh=>absurd rfl h⟩,by simp⟩
 ·simp only[List.cons.injEq,and_true]at h1;subst h1;have hx':∀i,i<len->∃cs',w.cells? base (a.add (i*P.cellsOf e)) (P.cellsOf e)=wh cs'/\Dr ks cs':=λi hi=>by
   obtain⟨cs',h1,h2⟩:=hx i (by split<;>omega);exact⟨cs',h1,JY d hk h2⟩
  rw[hc]at hx';obtain⟨X,hX⟩:=Deep.choose_lt (α := List wm) hx';have hlen:((List.range len).map X).length=len:=by simp
  refine⟨(List.range len).map X,⟨wh a,cap,by rw[hlen],by rw[hlen];exact hl,hm,λhne=>?_⟩,λx hx=>?_⟩
  ·have h0:0<len:=by
    rcases Nat.eq_zero_or_pos len with h0|h0
    ·subst h0;simp at hne
    ·exact h0
   obtain⟨hc0,hok⟩:=hX 0 h0;obtain⟨_,_,hcell⟩:=wn.cells?_some hc0;have hl0:=GF hok;have h00:=hcell 0 hpos;simp only[Nat.zero_mul]at h00;have ha0:(a.add 0).add 0=a:=by simp[Addr.add]
   rw[ha0,xS (by omega)]at h00;obtain⟨g,o,sp⟩:=a;have hsp:sp=wj:=by
    cases sp with
    | none=>rfl
    | some s=>simp[wn.cell?]at h00;split at h00<;>simp_all
   subst hsp;have hblk:∃cs e fz,w.heap[g]?=wh (.cells cs e fz):=by
    simp only[wn.cell?]at h00;split at h00
    ·rename_i c e' fz hg;exact⟨c,e',fz,hg⟩
    ·cases h00
   obtain⟨cs,e',fz,hg⟩:=hblk;refine⟨g,o,cs,e',fz,rfl,hg,λi x hi=>?_⟩;have hi':i<len:=by have:=(xM.1 hi).1;simpa using this
   simp only[zN,yY hi',o9,zS]at hi;subst hi;obtain⟨hci,hoki⟩:=hX i hi';obtain⟨_,_,hcelli⟩:=wn.cells?_some hci;refine⟨GF hoki,λj hj=>?_⟩;have:=hcelli j hj;rw[add_mk,add_mk,Eu hg]at this;rw[<-this,uy]
  ·obtain⟨i,hi,rfl⟩:=u7.1 hx;exact (hX i (by simpa using hi)).2
end
def Nv{H:Type}{enc:TypeId × wm->H}{P:wq}{w:wn}{base b0:Nat}{r:Reach}{spare:Nat->Bool}{held:Bool}{t e:TypeId}{d:Nat}{ks:List CK}{v:wm}{dd:DataW H}{ps:List MemPlace}(ht:P.underlying t=wh (.slice e))(hk:IR P d e=wh ks)(hc:P.cellsOf e=ks.length)(hpos:0<ks.length)(hv:wm.okWide P w r b0 t v)(h:DataW.Trod enc P w base spare held t v dd ps):
  ∃xs,Cp w v ks.length xs/\∀x∈xs,Dr ks x:=by obtain⟨a,len,cap,rfl⟩:=okWide_slice ht hv;exact SM ht hk hc hpos h rfl
def LP{H:Type}{enc:TypeId × wm->H}{P:wq}{w:wn}{base b0:Nat}{r:Reach}{spare:Nat->Bool}{held:Bool}{t:TypeId}{fs:Array Field}{d:Nat}{ks:List CK}{v:wm}{dd:DataW H}{ps:List MemPlace}(ht:P.underlying t=wh (.struct fs))(hk:IR P d t=wh ks)(hv:wm.okWide P w r b0 t v)(h:DataW.Trod enc P w base spare held t v dd ps):
  ∃cs,v=.agg cs/\Dr ks cs.toList:=by obtain⟨cs,rfl,_⟩:=okWide_struct ht hv;obtain⟨fuel,h⟩:=h;exact⟨cs,rfl,JY d hk h⟩
theorem GU{H:Type}{enc:TypeId × wm->H}{P:wq}{w:wn}{base:Nat}{spare:Nat->Bool}{held:Bool}:∀(ts:List TypeId) (vs:List wm) (ds:List (DataW H)) (ps:List MemPlace),
  DataW.TrodAll enc P w base spare held ts vs ds ps->vs.length=ts.length/\ds.length=ts.length
 | [],vs,ds,ps,h=>by obtain⟨rfl,rfl,_⟩:=trodAll_nil h;exact⟨rfl,rfl⟩
 | t::ts,vs,ds,ps,h=>by
  obtain⟨v,vs',d,ds',p,q,rfl,rfl,_,_,h'⟩:=trodAll_cons h;have:=GU ts vs' ds' q h';simp[this]
theorem Js{H:Type}{enc:TypeId × wm->H}{P:wq}{W W':wn}(hl:laidOutB P=wk)(hb:Below W.heap.size W W'):∀(ts:List TypeId) (vs:List wm) (ds:List (DataW H)) (ps:List MemPlace),
  (∀t∈ts,P.readableRec t=wk/\t<P.types.size)->DataW.TrodAll enc P W 0 (λ_=>wk) wk ts vs ds ps->(∀x∈ps,x.block<W.heap.size)->
  DataW.TrodAll enc P W' 0 (λb=>decide (b<W.heap.size)) wk ts vs ds ps
 | [],vs,ds,ps,_,h,_=>by obtain⟨rfl,rfl,rfl⟩:=trodAll_nil h;exact rfl
 | t::ts,vs,ds,ps,hr,h,hlt=>by
  obtain⟨v,vs',d,ds',p,q,rfl,rfl,rfl,h0,h'⟩:=trodAll_cons h;obtain⟨h1,h2⟩:=hr t (by simp);exact⟨p,q,Below.trod hl h1 h2 h0 hb (λx hx=>hlt x (by simp[hx])),Js hl hb ts vs' ds' q (λt ht=>hr t (by simp[ht])) h' (λx hx=>hlt x (by simp[hx])),rfl⟩
structure WE{H:Type}(enc:TypeId × wm->H)(P:wq)(fn:Func)(W:wn)(args:Array wm)(ds:List (DataW H))(ps:List MemPlace):Prop where
 trod:DataW.TrodAll enc P W 0 (λ_=>wk) wk fn.params.toList args.toList ds ps
 wide:∃base,∀(j:Nat) t v,fn.params[j]?=wh t->args[j]?=wh v->wm.okWide P W .any base t v
 reach:(DataW.weightsEach P fn.params.toList ds).all (· <= reachBytes)=wk
 lt:∀x∈ps,x.block<W.heap.size
end
section
open Go.RowKit
section
variable{P:wq}{w:wn}{t e:TypeId}{sz:Nat}
def HW(a:Addr):a.add 0=a:=by simp[Addr.add]
def Uw(A:Option Addr):A.map (·.add 0)=A:=by cases A<;>simp[HW]
def GT(A:Option Addr)(n c:Nat)(k:IntKind)(m:Int)(hu:P.underlying t=wh (.slice e))(hs:Hq P e=wh sz)(h0:0<=m)(h1:m<=(c:Int)):
  (Instr.sliceAt t (.slice A n c) wj (wh (.int k m)) wj).run P w=.ok (.slice A m.toNat c) w:=by
 have hs':(sizeOf e).run P w=.ok sz w:=DF hs;have hz:∀(c:Nat),(if c=0 then A else A.map (·.add (0*sz)))=A:=by intro c;rw[Nat.zero_mul,Uw];split<;>rfl
 simp[Instr.sliceAt,Instr.slice,underlying,hu,Instr.sliceBounds,Instr.sliceBound,asIntOf,h0,h1,hs'];cases A<;>simp[HW]
def FU(A:Option Addr)(n c:Nat)(k:IntKind)(l:Int)(hu:P.underlying t=wh (.slice e))(hs:Hq P e=wh sz)(h0:0<=l)(h1:l<=(n:Int)):
  (Instr.sliceAt t (.slice A n c) (wh (.int k l)) wj wj).run P w=.ok (.slice (if c=l.toNat then A else A.map (·.add (l.toNat*sz))) (n-l.toNat) (c-l.toNat)) w:=by have hs':(sizeOf e).run P w=.ok sz w:=DF hs;simp[Instr.sliceAt,Instr.slice,underlying,hu,Instr.sliceBounds,Instr.sliceBound,asIntOf,h0,h1,hs']
end
def Cp.drop{w:wn}{A:Option Addr}{n c sz:Nat}{xs:List (List wm)}(h:Cp w (.slice A n c) sz xs)(l:Nat)(hl:l<=n):
  Cp w (.slice (if c=l then A else A.map (·.add (l*sz))) (n-l) (c-l)) sz (xs.drop l):=by
 obtain⟨A',c',he,h1,h2,h3⟩:=h;simp only[zU]at he;obtain⟨rfl,rfl,rfl⟩:=he;have hlen:(xs.drop l).length=xs.length-l:=i7;refine⟨_,_,by rw[hlen],by rw[hlen];omega,by omega,λhne=>?_⟩;obtain⟨g,o,cs,e,fz,rfl,hg,hc⟩:=h3 (by intro e;rw[e]at hne;simp at hne);have hlt:l<xs.length:=by
  rcases Nat.lt_or_ge l xs.length with h|h
  ·exact h
  ·exact absurd (xZ h) hne
 refine⟨g,o+l*sz,cs,e,fz,?_,hg,λi x hi=>?_⟩
 ·rw[vx (by omega)];simp[add_mk]
 ·rw[zC]at hi;obtain⟨hx,hj⟩:=hc _ _ hi;refine⟨hx,λj hjs=>?_⟩;rw[<-hj j hjs];congr 1;rw[vk];omega
def NY{cs:Array wm}{x:List wm}{o sz:Nat}(hl:x.length=sz)(h:∀j,j<sz->cs[o+j]?=x[j]?):(0<sz->o+sz<=cs.size)/\(cs.toList.drop o).take sz=x:=by
 constructor
 ·intro h0;have:=h (sz-1) (by omega);rw[xS (by omega)]at this;have:=(xB.1 this).1;omega
 ·apply zL;intro j;rw[zD];by_cases hj:j<sz
  ·rw[vy hj,zC, <-h j hj];simp
  ·rw[vx hj,yG (by omega)]
def Bw{K:VK}{w:wn}{g o sz:Nat}{cs:Array wm}{e:TypeId}{fz:Nat × Nat}{x:List wm}(hg:w.heap[g]?=wh (.cells cs e fz))(hl:x.length=sz)(h0:0<sz)(h:∀j,j<sz->cs[o+j]?=x[j]?)(hk:K (.agg x.toArray) w):
  Ak sz (.pointer (wh ⟨g,o,wj⟩)) w K:=by obtain⟨h1,h2⟩:=NY hl h;exact AS hg (h1 h0) h2 hk
def Bc{K:VK}{w:wn}{S:wn->Prop}{v:wm}{sz:Nat}{xs:List (List wm)}{k:IntKind}{i:Int}(h:∀w',S w'->Cp w' v sz xs)(hS:S w){x:List wm}(h0:0<=i)(hx:xs[i.toNat]?=wh x)(hk:∀g o,x.length=sz->(∀w',S w'->∃cs e fz,w'.heap[g]?=wh (.cells cs e fz)/\∀j,j<sz->cs[o+j]?=x[j]?)->K (.pointer (wh ⟨g,o,wj⟩)) w):AC sz v (.int k i) w K:=by
 have hlt:i.toNat<xs.length:=(xM.1 hx).1;have hne:xs≠[]:=by intro he;rw[he]at hlt;simp at hlt
 obtain⟨A,c,rfl,h1,h2,h3⟩:=h w hS;obtain⟨g,o,cs,e,fz,rfl,hg,hc⟩:=h3 hne;rw[Bt];refine⟨⟨h0,by omega⟩,hk g _ (hc _ _ hx).1 λw' hw'=>?_⟩;obtain⟨A',c',he,_,_,h3'⟩:=h w' hw';simp only[zU]at he;obtain⟨rfl,_,rfl⟩:=he;obtain⟨g',o',cs',e',fz',hA,hg',hc'⟩:=h3' hne;simp only[zS,Addr.mk.injEq]at hA;obtain⟨rfl,rfl,_⟩:=hA;exact⟨cs',e',fz',hg',λj hj=>by rw[uy];exact (hc' _ _ hx).2 j hj⟩
def Bv{K:VK}{S:wn->Prop}{w:wn}{g o sz:Nat}{x:List wm}(hl:x.length=sz)(h0:0<sz)(h:∀w',S w'->∃cs e fz,w'.heap[g]?=wh (.cells cs e fz)/\∀j,j<sz->cs[o+j]?=x[j]?)(hk:K (.agg x.toArray) w):
  AM S sz (.pointer (wh ⟨g,o,wj⟩)) w K:=by refine AO (vs:=x) (λw' hw'=>?_) hk;obtain⟨cs,e,fz,hg,hc⟩:=h w' hw';obtain⟨h1,h2⟩:=NY hl hc;exact⟨cs,e,fz,hg,h1 h0,h2⟩
def BQ(w:wn)(v:wm)(e:TypeId)(sz:Nat)(xs:List (List wm)):Prop:=
 w.ownsRow 0 e sz v xs.length xs.flatten/\∀x∈xs,x.length=sz/\∀u∈x,u.oneCell'=wk
theorem EB{sz:Nat}:∀(xs:List (List wm)),(∀x∈xs,x.length=sz)->∀(i:Nat) (x:List wm),xs[i]?=wh x->∀j,j<sz->xs.flatten[i*sz+j]?=x[j]?
 | [],_,i,x,h,_,_=>by simp at h
 | y::xs,hl,0,x,h,j,hj=>by
  simp only[xW,zS]at h;subst h;have:=hl y (by simp);simp only[Nat.zero_mul,vd,zM];rw[xL (by omega)]
 | y::xs,hl,i+1,x,h,j,hj=>by
  simp only[xV]at h;have hy:=hl y (by simp);have ih:=EB xs (λz hz=>hl z (by simp[hz])) i x h j hj;simp only[zM];rw[xG (by rw[hy,vk];omega),hy, <-ih];congr 1;rw[vk];omega
theorem EC{sz:Nat}:∀(xs:List (List wm)),(∀x∈xs,x.length=sz)->xs.flatten.length=xs.length*sz
 | [],_=>by simp
 | y::xs,hl=>by
  rw[zM,zE,hl y (by simp),EC xs (λz hz=>hl z (by simp[hz])),d9,vk];omega
def BQ.nil(w:wn)(e:TypeId)(sz:Nat):BQ w (.slice wj 0 0) e sz []:=⟨⟨by simp,.inl ⟨rfl,rfl⟩⟩,by simp⟩
def BQ.lt{w:wn}{v:wm}{e:TypeId}{sz:Nat}{xs:List (List wm)}(h:BQ w v e sz xs){g:Nat}(hg:v.ownBlock=wh g):g<w.heap.size:=by
 obtain⟨⟨_,h⟩,_⟩:=h;rcases h with⟨rfl,_⟩|⟨g',cap,cur,rfl,_,hh,_⟩
 ·simp[wm.ownBlock]at hg
 ·simp only[wm.ownBlock,zS]at hg;subst hg;exact BP hh
def BQ.keep{S:List Nat}{w w':wn}{v:wm}{e:TypeId}{sz:Nat}{xs:List (List wm)}(h:BQ w v e sz xs)(hf:Fr S w w')(hS:∀g,v.ownBlock=wh g->g∉S):BQ w' v e sz xs:=by
 obtain⟨⟨h1,h2⟩,h3⟩:=h;refine⟨⟨h1,?_⟩,h3⟩;rcases h2 with h2|⟨g,cap,cur,rfl,hb,hh,r⟩
 ·exact .inl h2
 ·exact .inr ⟨g,cap,cur,rfl,hb,hf.at_ hh (hS g rfl),r⟩
def BQ.rd{w:wn}{v:wm}{e:TypeId}{sz:Nat}{xs:List (List wm)}(h:BQ w v e sz xs):Cp w v sz xs:=by
 obtain⟨⟨h1,h2⟩,h3⟩:=h;rcases h2 with⟨rfl,h2⟩|⟨g,cap,cur,rfl,hb,hh,h4,h5,h6,h7⟩
 ·have:xs=[]:=wW h2;subst this;exact⟨wj,0,rfl,by simp,by simp[maxLen],λh=>absurd rfl h⟩
 ·refine⟨_,cap,rfl,h4,h5,λ_=>⟨g,0,cur,e,(0,0),rfl,hh,λi x hx=>?_⟩⟩;have hl:∀x∈xs,x.length=sz:=λx hx=>(h3 x hx).1;have hlt:i<xs.length:=(xM.1 hx).1;refine⟨hl x (yR hx),λj hj=>?_⟩;have:=EB xs hl i x hx j hj;rw[<-this, <-h7,zD,vy]
  ·simp
  ·have:(i+1)*sz<=xs.length*sz:=yT _ hlt;rw[vk]at this;omega
def BQ.len{w:wn}{v:wm}{e:TypeId}{sz:Nat}{xs:List (List wm)}(h:BQ w v e sz xs):∃A c,v=.slice A xs.length c:=by
 obtain⟨⟨_,h⟩,_⟩:=h;rcases h with⟨rfl,h⟩|⟨g,cap,cur,rfl,_⟩
 ·exact⟨wj,0,by rw[h]⟩
 ·exact⟨_,cap,rfl⟩
def BN(v:wm):List Nat:=match v.ownBlock with | wh g=>[g] | wj=>[]
def Cb{v:wm}{x:Nat}:x∈BN v↔v.ownBlock=wh x:=by
 unfold BN;cases v.ownBlock with
 | none=>simp
 | some g=>simp[eq_comm]
def Hp{w w':wn}{v:wm}(h:w.grownBy w' v.ownBlock):Fr (BN v) w w':=
 ⟨h.os,h.tape,h.output,h.size,λb hb hS=>h.block b hb (λe=>hS (Cb.2 e.symm))⟩
section
variable{P:wq}{K:VK}{w:wn}
def Bm{t ty e:TypeId}{sz bytes:Nat}{z:wm}{v src:wm}{xs ys:List (List wm)}(ht:P.underlying t=wh (.slice e))(hinfo:(P.info? e).map (λi=>(i.zero,i.size,i.bytes))=wh (wh z,sz,bytes))(hz:z.cells.size=sz)(hsz:0<sz)(hv:BQ w v e sz xs)(hs:Cp w src sz ys)(h1:∀y∈ys,∀u∈y,u.oneCell'=wk)(hb:(xs.length+ys.length)*bytes<=140737488355328)(hm:xs.length+ys.length<=9223372036854775807)(hk:∀v' w',BQ w' v' e sz (xs++ys)->Fr (BN v) w w'->(v'.ownBlock=v.ownBlock∨∃g,v'.ownBlock=wh g/\w.heap.size<=g)->(v'=.slice wj 0 0↔v=.slice wj 0 0/\ys=[])->K v' w'):
  Am P (Builtin.append_ #[t,t] ty #[v,src]) w K:=by
 obtain⟨i0,hi,hzz⟩:=yD.1 hinfo;simp only[uz]at hzz;obtain⟨hz0,hz1,hz2⟩:=hzz;obtain⟨A,c,rfl,hlc,hcm,hcell⟩:=hs;have hyl:∀y∈ys,y.length=sz:=by intro y hy;obtain⟨i,hi',rfl⟩:=yW hy;obtain⟨g,o,cs,e',fz,_,_,hc⟩:=hcell (by intro h;rw[h]at hi';simp at hi');exact (hc i _ (xS hi')).1
 cases A with
 | none=>
  have:ys=[]:=by apply xI;intro hne;obtain⟨g,o,cs,e',fz,h,_⟩:=hcell hne;cases h
  subst this;refine A4 (v:=v) (w':=w) ?_ (hk v w (by simpa using hv) (Fr.refl _ _) (.inl rfl) (by simp));rcases hv.1.2 with⟨rfl,hn⟩|⟨g,cap,cur,rfl,_,_,hnc,_⟩
  ·simp[Builtin.append_,underlying,ht,sizeOf,typeInfo,hi,Builtin.lenOf,Builtin.firstCells]
  ·simp[Builtin.append_,underlying,ht,sizeOf,typeInfo,hi,Builtin.lenOf,Builtin.firstCells,hnc,storeCells]
 | some ad=>
  have hnews:∀j u,ys.flatten[j]?=wh u->w.cell? (ad.add j)=wh u:=by
   intro j u hj;have hlt:j<ys.flatten.length:=(xM.1 hj).1;rw[EC ys hyl]at hlt;have hne:ys≠[]:=by intro h;rw[h]at hlt;simp at hlt
   obtain⟨g,o,cs,e',fz,hA,hg,hc⟩:=hcell hne;simp only[zS]at hA;subst hA;have hdiv:j / sz<ys.length:=Nat.div_lt_of_lt_mul (by rwa [vb]);have hmod:j % sz<sz:=Nat.mod_lt _ hsz;have e1:=hc (j / sz) _ (xS hdiv);have e2:=EB ys hyl (j / sz) _ (xS hdiv) (j % sz) hmod;have hj':j / sz*sz+j % sz=j:=by rw[vb];exact Nat.div_add_mod j sz
   rw[hj',hj]at e2;have e3:=e1.2 (j % sz) hmod;rw[hj', <-e2]at e3;rw[_root_.Go.Proofs.QV.add_mk,Eu hg,e3]
  obtain⟨v1,w1,hr,hown,hg,hnil,hat⟩:=run_append_own_at (P:=P) (w:=w) 0 t ty e i0 z sz bytes ht hi hz0 hz1 hz2 hz hsz v xs.length xs.flatten hv.1 ad ys.length c ys.flatten (EC ys hyl) hnews
   (by intro u hu;obtain⟨y,hy,hu⟩:=List.mem_flatten.1 hu;exact h1 y hy u hu) (by unfold maxLen;omega) hb (Nat.zero_le _)
  refine A4 hr (hk v1 w1 ⟨?_,?_⟩ (Hp hg) ?_ ?_)
  ·rw[zE,List.flatten_append];exact hown
  ·intro x hx;rcases n7.1 hx with hx|hx
   ·exact hv.2 x hx
   ·exact⟨hyl x hx,h1 x hx⟩
  ·rcases hat with h|h
   ·exact .inl h
   ·exact .inr ⟨_,h,vl _⟩
  ·rw[hnil];constructor
   ·rintro⟨h1,h2⟩;exact⟨h1,wW h2⟩
   ·rintro⟨h1,h2⟩;exact⟨h1,by rw[h2];rfl⟩
def Cp.of_block{g n c sz:Nat}{e:TypeId}{fz:Nat × Nat}{cs:Array wm}{xs:List (List wm)}(hg:w.heap[g]?=wh (.cells cs e fz))(hn:n=xs.length)(hc:n<=c)(hcm:c<=9223372036854775807)(hl:∀x∈xs,x.length=sz)(hx:cs.toList.take (n*sz)=xs.flatten):
  Cp w (.slice (wh ⟨g,0,wj⟩) n c) sz xs:=by
 subst hn;refine⟨_,c,rfl,hc,by unfold maxLen;omega,λ_=>⟨g,0,cs,e,fz,rfl,hg,λi x hi=>?_⟩⟩;refine⟨hl x (yR hi),λj hj=>?_⟩;have hlt:i<xs.length:=(xM.1 hi).1;rw[<-EB xs hl i x hi j hj, <-hx,zD,vy]
 ·simp
 ·have:(i+1)*sz<=xs.length*sz:=yT _ hlt;rw[vk]at this;omega
def BQ.of_block{g n c sz:Nat}{e:TypeId}{cs:Array wm}{xs:List (List wm)}(hg:w.heap[g]?=wh (.cells cs e (0,0)))(hn:n=xs.length)(hc:n<=c)(hcm:c<=9223372036854775807)(hcs:cs.size=c*sz)(hl:∀x∈xs,x.length=sz/\∀u∈x,u.oneCell'=wk)(hx:cs.toList.take (n*sz)=xs.flatten):
  BQ w (.slice (wh ⟨g,0,wj⟩) n c) e sz xs:=by subst hn;exact⟨⟨EC xs λx h=>(hl x h).1,.inr ⟨g,c,cs,rfl,Nat.zero_le _,hg,hc,by unfold maxLen;omega,hcs,hx⟩⟩,hl⟩
end
def JR{T R y:List wm}{o:Nat}(h:o+y.length<=T.length):CO (T++R) o y=CO T o y++R:=by unfold CO;rw[List.take_append_of_le_length (by omega),List.drop_append_of_le_length (by omega)];simp
def Gu{T y:List wm}{o:Nat}(h:o+y.length<=T.length):(CO T o y).length=T.length:=by unfold CO;simp;omega
theorem Ix{sz:Nat}{y:List wm}(hy:y.length=sz):∀(xs:List (List wm)),(∀x∈xs,x.length=sz)->∀j,j<xs.length->(xs.set j y).flatten=CO xs.flatten (j*sz) y
 | [],_,j,hj=>by simp at hj
 | a::xs,hl,0,_=>by
  have ha:=hl a (by simp);simp only[List.set_cons_zero,zM,Nat.zero_mul,CO,List.take_zero,n9,vd];rw[hy, <-ha,List.drop_left]
 | a::xs,hl,j+1,hj=>by
  have ha:=hl a (by simp);simp only[d9,Nat.add_lt_add_iff_right]at hj;have ih:=Ix hy xs (λx hx=>hl x (by simp[hx])) j hj;simp only[List.set_cons_succ,zM,ih];unfold CO;have e:(j+1)*sz=a.length+j*sz:=by rw[ha,vk];omega
  rw[e,List.take_length_add_append,uy,List.drop_length_add_append];simp
section
variable{P:wq}{K:wn->Prop}{w:wn}
def Bi{v x:wm}{e:TypeId}{sz:Nat}{xs:List (List wm)}{k:IntKind}{j:Int}(ho:BQ w v e sz xs)(h0:0<=j)(hj:j.toNat<xs.length)(hx:x.cells.size=sz)(h1:∀u∈x.cells.toList,u.oneCell'=wk)(hk:∀w',BQ w' v e sz (xs.set j.toNat x.cells.toList)->Fr (BN v) w w'->w'.heap.size=w.heap.size->K w'):AC sz v (.int k j) w λp w1=>Aj sz p x w1 K:=by
 obtain⟨⟨h2,h3⟩,h4⟩:=ho;rcases h3 with⟨rfl,h3⟩|⟨g,cap,cur,rfl,hb,hh,h5,h6,h7,h8⟩
 ·omega
 ·simp only[Bt];have hle:(j.toNat+1)*sz<=cap*sz:=yT _ (by omega);have hle2:(j.toNat+1)*sz<=xs.length*sz:=yT _ hj;have hle3:xs.length*sz<=cap*sz:=yT _ h5;rw[vk]at hle hle2;refine⟨⟨h0,by omega⟩,Bl hh hx h1 (by omega) λw' hu=>hk w' ?_ (hu.fr.mono (by simp[BN,wm.ownBlock])) hu.sz⟩;have hxl:x.cells.toList.length=sz:=by simpa using hx
  rw[vd]at hu;have hsz:(CO cur.toList (j.toNat*sz) x.cells.toList).length=cur.toList.length:=Gu (by rw[hxl];simp;omega);have ht:(cur.toList.take (xs.length*sz)).length=xs.length*sz:=List.length_take_of_le (by simp;omega);refine BQ.of_block (n:=xs.length) hu.at_ (by simp) h5 (by unfold maxLen at h6;omega) (by rw[List.size_toArray,hsz];simpa using h7) (λy hy=>?_) ?_
  ·rcases xO hy with hy|rfl
   ·exact h4 y hy
   ·exact⟨hxl,h1⟩
  ·rw[Ix hxl xs (λy hy=>(h4 y hy).1) _ hj, <-h8];show (CO cur.toList (j.toNat*sz) x.cells.toList).take (xs.length*sz)=CO (cur.toList.take (xs.length*sz)) (j.toNat*sz) x.cells.toList;generalize hT:cur.toList.take (xs.length*sz)=T at *;have hc:cur.toList=T++cur.toList.drop (xs.length*sz):=by rw[<-hT];exact (yL _ _).symm
   rw[hc,JR (by rw[hxl,ht];omega)];exact List.take_left' (by rw[Gu (by rw[hxl,ht];omega),ht])
end
def BY(w:wn)(v:wm):Prop:=∀g,v.ownBlock=wh g->w.heap.size<=g
def BY.mono{w w':wn}{v:wm}(h:BY w' v)(hf:w.heap.size<=w'.heap.size):BY w v:=λg hg=>va hf (h g hg)
def BY.nil(w:wn):BY w (.slice wj 0 0):=λg hg=>by simp[wm.ownBlock]at hg
def BY.blk{w:wn}{v:wm}(h:BY w v):∀g∈BN v,w.heap.size<=g:=λg hg=>h g (Cb.1 hg)
def O0{c:Array wm}{sz:Nat}(hc:c.size=sz)(h0:0<sz)(n:Nat):(madeCells c (n*sz)).toList=(List.replicate n c.toList).flatten:=by
 have hl:∀x∈List.replicate n c.toList,x.length=sz:=λx hx=>by rw[xR hx];simpa using hc
 apply zL;intro k;by_cases hk:k<n*sz
 ·have hdiv:k / sz<n:=Nat.div_lt_of_lt_mul (by rwa [vb]);have hmod:k % sz<sz:=Nat.mod_lt _ h0;have e2:=EB _ hl (k / sz) c.toList (by rw[xX,vy hdiv]) (k % sz) hmod;have hk':k / sz*sz+k % sz=k:=by rw[vb];exact Nat.div_add_mod k sz
  rw[hk']at e2;rw[e2];unfold madeCells;simp[hk,hc];rw[xH (by omega),getElem!_pos c _ (by omega)]
 ·rw[yG (by unfold madeCells;simp;omega),yG (by rw[EC _ hl];simp;omega)]
section
variable{P:wq}{K:VK}{w:wn}
def BQ.mem_lt{w:wn}{v:wm}{e:TypeId}{sz:Nat}{xs:List (List wm)}(h:BQ w v e sz xs):∀g∈BN v,g<w.heap.size:=λg hg=>h.lt (Cb.1 hg)
def BQ.keep'{S:List Nat}{w w':wn}{v:wm}{e:TypeId}{sz:Nat}{xs:List (List wm)}(h:BQ w v e sz xs)(hf:Fr S w w')(hS:∀g∈BN v,g∉S):BQ w' v e sz xs:=h.keep hf λg hg=>hS g (Cb.2 hg)
def BQ.cap{v:wm}{e:TypeId}{sz:Nat}{xs:List (List wm)}(h:BQ w v e sz xs):∃A c,v=.slice A xs.length c/\xs.length<=c/\(A=wj->xs=[]):=by
 obtain⟨⟨_,h⟩,_⟩:=h;rcases h with⟨rfl,h⟩|⟨g,cap,cur,rfl,_,_,h1,_⟩
 ·exact⟨wj,0,by rw[h],by omega,λ_=>wW h⟩
 ·exact⟨_,cap,rfl,h1,λh=>by cases h⟩
def BQ.one{v:wm}{e:TypeId}{sz:Nat}{xs:List (List wm)}(h:BQ w v e sz xs):v.oneCell'=wk/\v.cells = #[v]:=by obtain⟨A,c,rfl⟩:=h.len;exact⟨rfl,rfl⟩
def BQ.take{A:Option Addr}{n c sz:Nat}{e:TypeId}{xs:List (List wm)}(h:BQ w (.slice A n c) e sz xs)(m:Nat)(hm:m<=n)(hA:A=wj->m=0):BQ w (.slice A m c) e sz (xs.take m):=by
 obtain⟨⟨h1,h2⟩,h3⟩:=h;have h3':∀x∈xs.take m,x.length=sz/\∀u∈x,u.oneCell'=wk:=λx hx=>h3 x (yS hx);rcases h2 with⟨he,hn⟩|⟨g,cap,cur,he,hb,hh,r1,r2,r3,r4⟩
 ·simp only[zU]at he;obtain⟨rfl,rfl,rfl⟩:=he;have:m=0:=by omega
  subst this;simp only[List.take_zero];exact BQ.nil w e sz
 ·simp only[zU]at he;obtain⟨rfl,rfl,rfl⟩:=he;have hl:(xs.take m).length=m:=by rw[i8];omega
  have:=BQ.of_block (w:=w) (g:=g) (n:=m) (c:=c) (sz:=sz) (e:=e) (cs:=cur) (xs:=xs.take m) hh hl.symm (by omega) (by unfold maxLen at r2;omega) r3 h3' ?_
  ·exact this
  ·have e1:cur.toList.take (m*sz)=(cur.toList.take (xs.length*sz)).take (m*sz):=by rw[List.take_take,Nat.min_eq_left (yT _ hm)]
   rw[e1,r4];have hlen:∀x∈xs,x.length=sz:=λx hx=>(h3 x hx).1;have:xs.flatten=(xs.take m).flatten++(xs.drop m).flatten:=by rw[<-List.flatten_append,yL]
   rw[this,List.take_left' (by rw[EC _ λx hx=>hlen x (yS hx),hl])]
def Bf{t e:TypeId}{sz bytes:Nat}{z:wm}{k k':IntKind}(n:Nat)(ht:P.underlying t=wh (.slice e))(hinfo:(P.info? e).map (λi=>(i.zero,i.size,i.bytes))=wh (wh z,sz,bytes))(hz:z.cells.size=sz)(hsz:0<sz)(h1:∀u∈z.cells.toList,u.oneCell'=wk)(hb:bytes*n<=281474976710656)(hm:n<=9223372036854775807)(hk:∀g w',DE w g (.cells (madeCells z.cells (n*sz)) e) w'->BQ w' (.slice (wh ⟨g,0,wj⟩) n n) e sz (List.replicate n z.cells.toList)->K (.slice (wh ⟨g,0,wj⟩) n n) w'):Am P (Instr.makeSlice t (.int k (n:Int)) (.int k' (n:Int))) w K:=by
 obtain⟨i0,hi,hzz⟩:=yD.1 hinfo;simp only[uz]at hzz;obtain⟨hz0,hz1,hz2⟩:=hzz;have hr:=run_make (P:=P) w t e i0 z ht hi hz0 k k' (n:Int) (n:Int) (by omega) (vj _) (by rw[hz2, <-Int.natCast_mul];omega) (by omega);simp only[zK,hz1]at hr;have hn:=DE.mk' w (.cells (madeCells z.cells (n*sz)) e);refine A4 hr (hk _ _ hn (BQ.of_block hn.at_ (by simp) (vl _) (by omega) (by unfold madeCells;simp) (λx hx=>?_) ?_))
 ·rw[xR hx];exact⟨by simpa using hz,h1⟩
 ·rw[O0 hz hsz,yB];rw[EC (sz:=sz) _ λx hx=>by rw[xR hx];simpa using hz];simp
def Jm{g:Nat}{e:TypeId}{cs cs':Array wm}(h:w.heap[g]?=wh (.cells cs e (0,0))):H9 w g (.cells cs' e (0,0)) (w.setRow g cs'):=by refine⟨⟨rfl,rfl,rfl,by simp[wn.setRow],λb _ hb=>?_⟩,setRow_heap w g cs cs' e _ h,by simp[wn.setRow]⟩;simp only[zF]at hb;simp[wn.setRow,yE,vv hb]
end
end
section
open Go.Proofs Go.RowKit
def C7(n:Int):Int:=IntKind.i64.wrap n
def BV(k:Int):Int:=if k=1 then 2 else if k=2 then 4 else if k=3 then 8 else if k=4 then 16 else 0
def CD(n:Int):Int:=if n<0∨n>127 then 0 else if n<2 then 1 else if n<4 then 2 else if n<8 then 3 else if n<16 then 4 else 5
def BR(k:Int):Int:=if k=1 then 16 else if k=2 then 8 else if k=3 then 4 else if k=4 then 2 else 0
def Ez(n:Int):Int:=if CD n=5 then (n+32) / 32 else 0
def Cq(a:Int):Int:=if 0<=a/\a<2048 then a / 32 else -1
def K9(p k i:Int):Int × Bool:=if 0<=p/\p<64/\0<=i/\i<BR k then (p*32+i*BV k,wk) else (0,wl)
def E2(k a:Int):Int:=if BV k=0∨Cq a<0 then -1 else a-a % BV k
def GL(k a:Int):Int × Bool:=if E2 k a<0∨E2 k a≠a then (0,wl) else (a % 32 / BV k,wk)
def GM(p n:Int):Int × Int × Bool:=if 0<=p/\1<=n/\p<64/\n<=64-p then (p*32,(p+n)*32-1,wk) else (0,0,wl)
def FI(s n:Int):Int:=if 0<=s/\s<1099511627776/\0<=n/\n<=127 then s*128+n else 0
def Gs(w:Int):Int × Int:=if 0<=w/\w / 128<1099511627776 then (w / 128,w % 128) else (0,0)
abbrev V2:=Int × Int
def DL(k n:Int):Int:=if k=0 then (if n=0 then 0 else 4) else if k=1 then (if -1099511627776<=n/\n<1099511627776 then 0 else 4) else if k=2 then (if 0<=n/\n<2048 then 0 else 4) else 12
def Li(k n:Int):Int:=if k=2 then 2*n+2 else if k=1 then 2*n+1 else 0
def LU(a:Int):Int:=if a % 2=1 then 1 else if a=0 then 0 else 2
def LV(a:Int):Int:=if a % 2=1 then a / 2 else if a=0 then 0 else a.tdiv 2-1
def Dp(v:V2):Bool:=decide (DL v.1 v.2=0)
def ER(v:V2):Int:=Li v.1 v.2
def H1(w:Int):V2 × Bool:=if DL (LU w) (LV w)=0 then ((LU w,LV w),wk) else ((0,0),wl)
def ET(m:List Int)(a n:Int):Prop:=0<=a/\0<=n/\a<=m.length/\n<=m.length-a
instance (m:List Int) (a n:Int):Decidable (ET m a n):=by unfold ET;infer_instance
def Cn(m:List Int)(a:Int):Int:=if ET m a 1 then m.getD a.toNat 0 else 0
def CX(m:List Int)(a n w:Int):List Int:=if ET m a n then m.take a.toNat++List.replicate n.toNat w++m.drop (a.toNat+n.toNat) else m
def Dw(m:List Int)(a n w:Int):(CX m a n w).length=m.length:=by
 unfold CX;split
 ·rename_i h;unfold ET at h;simp only[zE,i8,yJ,i7];omega
 ·rfl
def DN(m:List Int)(a w:Int):List Int:=CX m a 1 w
abbrev Bs:=Nat->Bool
def Fu(n:Int)(s:Bs)(i:Int):Bool:=decide (0<=i) && decide (i<n) && s i.toNat
def C9(s:Bs)(i:Nat)(b:Bool):Bs:=λj=>if j=i then b else s j
def J1(n:Int)(s:Bs)(i:Int):Bs:=if 0<=i/\i<n then C9 s i.toNat wk else s
def KQ(n:Int)(s:Bs)(i:Int):Bs:=if Fu n s i then C9 s i.toNat wl else s
def HB(n:Int)(s:Bs):List Int:=((List.range n.toNat).filter s).map Int.ofNat
def BT(ks:List Int)(p:Int):Int:=if 0<=p/\p<ks.length then ks.getD p.toNat 0 else -1
def FM(ks:List Int)(k:Int):Option Nat:=if BV k=0 then wj else ks.findIdx? λk=>decide (k=0)
def EO(n:Nat):List Int->Nat->Nat->Option Nat
 | [],p,run=>if n<=run then wh (p-run) else wj
 | k::ks,p,run=>if k=0 then EO n ks (p+1) (run+1) else if 0<run/\n<=run then wh (p-run) else EO n ks (p+1) 0
def Fy(ks:List Int)(n:Int):Option Nat:=if n<1 then wj else EO n.toNat ks 0 0
def Dj(ks:List Int)(p n:Nat)(k:Int):List Int:=ks.take p++List.replicate n k++ks.drop (p+n)
def DI:List Int->Nat
 | []=>0
 | k::ks=>if k=6 then DI ks+1 else 0
def Cr(ks:List Int)(p:Int):Nat:=if BV (BT ks p)>0 then 1 else if BT ks p=5 then DI (ks.drop (p.toNat+1))+1 else 0
def Ii(ks:List Int)(p:Int):List Int:=if Cr ks p=0 then ks else Dj ks p.toNat (Cr ks p) 0
def E4(ks:List Int):Nat->Int
 | 0=>if BT ks 0=6 then -1 else 0
 | p+1=>if BT ks ((p+1:Nat):Int)=6 then E4 ks p else ((p+1:Nat):Int)
def FA(ks:List Int)(p:Int):Int:=if Cr ks (if 0<=p then E4 ks p.toNat else p)=0 then -1 else if 0<=p then E4 ks p.toNat else p
def Dt(ks:List Int):Int:=ks.countP λk=>decide (k=0)
def Fx(m:List Int)(p k:Int):Prop:=0<=p/\p<64/\0<BR k/\p*32+31<m.length
instance (m:List Int) (p k:Int):Decidable (Fx m p k):=by unfold Fx;infer_instance
def Gq(m:List Int)(p k i next:Int):List Int:=DN m (K9 p k i).1 (-1-next)
def E3(m:List Int)(p k:Int):Nat->List Int
 | 0=>m
 | i+1=>Gq (E3 m p k i) p k i (i+1)
def DM(m:List Int)(p k:Int):List Int × (Int × Int):=if Fx m p k then (E3 (CX m (p*32) 32 0) p k (BR k).toNat,(0,BR k)) else (m,(0,0))
def Km(m:List Int)(p k i:Int):Option Int:=let w:=Cn m (K9 p k i).1;if 0<=w∨w < -1-BR k then wj else wh (-1-w)
def Eb(m:List Int)(p k:Int)(l:Int × Int):Int × (Int × Int):=if Fx m p k/\1<=l.2/\0<=l.1/\l.1<BR k then (match Km m p k l.1 with
  | some x=>(l.1,(x,l.2-1))
  | none=>(0,(0,0))) else (0,(0,0))
def Fe(m:List Int)(p k:Int)(l:Int × Int)(i:Int):List Int × (Int × Int):=if Fx m p k/\0<=i/\i<BR k/\0<=l.2/\l.2<BR k/\0<=l.1/\l.1<=BR k then (Gq m p k i l.1,(i,l.2+1)) else (m,(0,0))
structure Ce where
 ks:List Int
 m:List Int
 ch:List (Int × Int)
 tk:Bs
def Ce.n(c:Ce):Int:=c.m.length
def Ce.small(c:Ce)(p:Int):Bool:=decide (BV (BT c.ks p)>0)
def Ce.chain(c:Ce)(p:Int):Int × Int:=c.ch.getD p.toNat (0,0)
def Ce.left(c:Ce)(p:Int):Int:=if c.small p then (c.chain p).2 else 0
def Ce.carve(c:Ce)(k:Int):Ce × Option Nat:=match FM c.ks k with
 | none=>(c,none)
 | some p=>({ c with ks:=c.ks.set p k,m:=(DM c.m p k).1,ch:=c.ch.set p (DM c.m p k).2 },some p)
def Ce.take(c:Ce)(p:Int):Ce × Option Int:=if c.left p=0 then (c,wj) else
 let k:=BT c.ks p
 let r:=Eb c.m p k (c.chain p)
 let a:=(K9 p k r.1).1
 ({ c with ch:=c.ch.set p.toNat r.2,tk:=J1 c.n c.tk a,m:=CX c.m a (BV k) 0 },wh a)
def Ce.large(c:Ce)(n:Int):Ce × Option Int:=match Fy c.ks n with
 | none=>(c,none)
 | some p=>
  let a:=(GM p n).1
  ({ c with ks:=(Dj c.ks p n.toNat 6).set p 5,tk:=J1 c.n c.tk a,m:=CX c.m a (n*32) 0 },wh a)
def Ce.isIt(c:Ce)(a:Int):Bool:=Fu c.n c.tk a
def Ce.give(c:Ce)(a:Int):Ce × Bool:=if c.isIt a then
  let t:=KQ c.n c.tk a
  let p:=Cq a
  let k:=BT c.ks p
  if k=5 then ({ c with tk:=t,ks:=Ii c.ks p },wk) else
  let r:=Fe c.m p k (c.chain p) (GL k a).1
  ({ c with tk:=t,m:=r.1,ch:=c.ch.set p.toNat r.2 },wk) else (c,wl)
def Ce.drop(c:Ce)(p:Int):Ce × Bool:=if c.small p/\BR (BT c.ks p)<=c.left p then ({ c with ks:=Ii c.ks p },wk) else (c,wl)
def Ce.base(c:Ce)(a:Int):Int:=
 let p:=Cq a
 let b:=E2 (BT c.ks p) a
 let f:=FA c.ks p
 let d:=if b<0/\0<=f then (GM f 1).1 else b
 if c.isIt d then d else -1
def Ce.store(c:Ce)(a w:Int):Ce × Bool:=if 0<=c.base a/\ET c.m a 1 then ({ c with m:=DN c.m a w },wk) else (c,wl)
abbrev Om:=Int × Int->Option Int
def FT:List (Int × Int):=(List.range 9).flatMap λt:Nat=>[(Int.ofNat t,1),(Int.ofNat t,2),(Int.ofNat t,3),(Int.ofNat t,4)]
def Fi(f:Om)(a:Int × Int):Int:=(f a).getD (-1)
def Dx(f:Om)(p:Int):Int × Int:=match FT.find? (λa=>decide (f a=wh p)) with
 | some a=>a
 | none=>(-1,0)
def Lf(f:Om)(a:Int × Int)(p:Int):Om:=λb=>if b=a then wh p else f b
def Ja(f:Om)(t:Int):Om:=λb=>if b.1=t then wj else f b
def Fz(f:Om)(t:Int):List Int:=([1,2,3,4]:List Int).filterMap λk=>f (t,k)
structure Cf where
 pages:Int
 threads:Int
 window:Int
 quantum:Int
 target:Int
 cap:Int
 tax:Int
 chunk:Int
 stack:Int
 trigger:Int
structure St where
 c:Ce
 own:Om
 made:Int
def St.begin(s:St)(a n:Int):St:={ s with c:=(s.c.store a (FI s.made n)).1,made:=C7 (s.made+1) }
def St.fast(s:St)(t n:Int):St × Option Int:=if BV (CD n)=0 then (s,wj) else
 match s.c.take (Fi s.own (t,CD n)) with
 | (_,wj)=>(s,wj)
 | (c,wh a)=>(({ s with c:=c }:St).begin a n,wh a)
def M3(nt:Int)(f:Om)(t k p:Int):Prop:=0<=t/\t<nt/\BV k≠0/\0<=p/\p<64/\(Dx f p).1<0
instance (nt:Int) (f:Om) (t k p:Int):Decidable (M3 nt f t k p):=by unfold M3;infer_instance
def St.openAt(s:St)(k:Int):Nat->Nat->Option Nat
 | 0,_=>wj
 | d+1,p=>if (Dx s.own p).1<0/\BT s.c.ks p=k/\0<s.c.left p then wh p else St.openAt s k d (p+1)
def St.openP(np:Nat)(s:St)(k:Int):St × Option Int:=match s.openAt k np 0 with
 | some p=>(s,some p)
 | none=>({ s with c:=(s.c.carve k).1 },(s.c.carve k).2.map λp=>(p:Int))
def St.slow(np:Nat)(nt:Int)(s:St)(t n:Int):St × Int × Int:=
 let k:=CD n
 if k=0∨t<0∨nt<=t then (s,0,4) else
 if k=5 then (match s.c.large (Ez n) with
  | (_,wj)=>(s,0,10)
  | (c,wh a)=>(({ s with c:=c }:St).begin a n,a,0)) else
 match s.fast t n with
 | (s',wh a)=>(s',a,0)
 | (_,wj)=>match s.openP np k with
  | (_,wj)=>(s,0,10)
  | (s',wh p)=>
   let s2:St:=if M3 nt s'.own t k p then { s' with own:=Lf s'.own (t,k) p } else s'
   ((s2.fast t n).1,((s2.fast t n).2.getD 0),0)
def St.read(s:St)(a:Int):Int × Int:=if s.c.isIt a then Gs (Cn s.c.m a) else (-1, -1)
def St.fields(s:St)(a:Int):Int:=(s.read a).2
def St.serial(s:St)(a:Int):Int:=(s.read a).1
def St.get(s:St)(a i:Int):V2 × Bool:=if 0<=i/\i<s.fields a then H1 (Cn s.c.m (C7 (C7 (a+1)+i))) else ((0,0),wl)
def St.set(s:St)(a i:Int)(v:V2):St × Bool:=if Dp v/\0<=i/\i<s.fields a then ({ s with c:=(s.c.store (C7 (C7 (a+1)+i)) (ER v)).1 },(s.c.store (C7 (C7 (a+1)+i)) (ER v)).2) else (s,wl)
def St.objects(s:St):List Int:=HB s.c.n s.c.tk
def St.inP(s:St)(p:Int):List Int:=s.objects.filter λa=>decide (Cq a=p)
def St.dropAll(s:St):List Int->St
 | []=>s
 | p::ps=>St.dropAll { s with c:=(s.c.drop p).1 } ps
def St.quit(s:St)(t:Int):St:=St.dropAll { s with own:=Ja s.own t } ((Fz s.own t).mergeSort λx y=>decide (x<=y))
def St.trim(s:St)(p:Int):St:=if (Dx s.own p).1<0 then { s with c:=(s.c.drop p).1 } else s
structure Gy where
 l:List (Int × Int)
 over:Bool
 mks:Bs
def Gy.push(room:Int)(g:Gy)(e:Int × Int):Gy:=if (g.l.length:Int)=room then { g with over:=wk } else { g with l:=g.l++[e] }
def Gy.is(g:Gy)(a:Int):Bool:=Fu 2048 g.mks a
def Gy.black(g:Gy)(a:Int):Gy:=if 0<=a/\a<2048 then { g with mks:=C9 g.mks a.toNat wk } else g
def Gy.shade(room:Int)(g:Gy)(a:Int):Gy:=if 0<=a/\a<2048/\¬g.is a then (g.black a).push room (a,0) else g
def Gy.shadeAll(room:Int)(g:Gy):List Int->Gy
 | []=>g
 | a::l=>Gy.shadeAll room (g.shade room a) l
def Gy.clear(g:Gy)(a:Int):Gy:=if g.is a then { g with mks:=C9 g.mks a.toNat wl } else g
structure Rg where
 ep:Int
 l:List (Bool × Int)
def Rg.live(r:Rg)(t:Int):Bool:=decide (0<=t) && decide (t<r.l.length) && (r.l.getD t.toNat (wl,0)).1
def Rg.ofT(r:Rg)(t:Int):Int:=if r.live t then (r.l.getD t.toNat (wl,0)).2 else -1
def Rg.agreed(r:Rg):Bool:=r.l.all λm => !(m.1 && decide (m.2<r.ep))
def Rg.attach(r:Rg)(t:Int):Rg × Bool:=if 0<=t/\t<r.l.length/\¬r.live t then ({ r with l:=r.l.set t.toNat (wk,r.ep) },wk) else (r,wl)
def Rg.detach(r:Rg)(t:Int):Rg:=if r.live t then { r with l:=r.l.set t.toNat (wl,0) } else r
def Rg.confirm(r:Rg)(t:Int):Rg × Bool:=if r.live t/\r.ofT t<r.ep then ({ r with l:=r.l.set t.toNat (wk,r.ep) },wk) else (r,wl)
def Rg.raise(r:Rg):Rg:={ r with ep:=C7 (r.ep+1) }
def DQ(b:List (List Int))(t:Int):List Int:=if 0<=t then b.getD t.toNat [] else[]
def F3(b:List (List Int))(t a:Int):List (List Int):=if 0<=t/\t<b.length/\0<=Cq a/\a∉DQ b t then b.set t.toNat (DQ b t++[a]) else b
def CT(b:List (List Int))(t:Int):List (List Int):=if 0<=t/\t<b.length then b.set t.toNat [] else b
def CL(b:List (List Int)):Bool:=b.all λl=>l.isEmpty
structure Co where
 s:St
 g:Gy
 r:Rg
 b:List (List Int)
 tp:Int
 at_:Int
 freed:Int
 th:List (List V2)
 global:Int
 phase:Int
 cycles:Int
 units:Int
section
variable(cf:Cf)
def thru(s:St)(a:Int):Nat->Int->Gy->Gy
 | 0,_,g=>g
 | d+1,i,g=>thru s a d (i+1) (if (s.get a i).1.1=2 then g.shade cf.stack (s.get a i).1.2 else g)
def lookAll(s:St):List Int->Gy->Gy
 | [],g=>g
 | a::l,g=>lookAll s l (if g.is a then thru cf s a (s.fields a).toNat 0 g else g)
def Co.look(c:Co):Co:={ c with g:=lookAll cf c.s (c.s.inP c.tp) c.g,tp:=if C7 (c.tp+1)=cf.pages then -1 else C7 (c.tp+1) }
def Co.entry(c:Co)(e:Int × Int):Co:=
 let n:=c.s.fields e.1
 if e.2<0∨n<=e.2 then c else
 let to:=min (C7 (e.2+cf.chunk)) n
 let g:=if to<n then c.g.push cf.stack (e.1,to) else c.g
 { c with g:=thru cf c.s e.1 (to-e.2).toNat e.2 g }
def Co.tIdle(c:Co):Bool:=c.g.l.isEmpty && decide (c.tp = -1) && !c.g.over
def Co.tUnit(c:Co):Co × Bool:=if c.tIdle then (c,wl) else
 match c.g.l.getLast? with
 | some e=>(({ c with g:={ c.g with l:=c.g.l.dropLast } }:Co).entry cf e,wk)
 | none=>(if c.tp = -1 then ({ c with g:={ c.g with over:=wl },tp:=0 }:Co).look cf else c.look cf,wk)
def Co.sweepOne(c:Co)(a:Int):Co:=if c.g.is a then { c with g:=c.g.clear a } else { c with s:={ c.s with c:=(c.s.c.give a).1 },freed:=if (c.s.c.give a).2 then C7 (c.freed+1) else c.freed }
def Co.sweepAll(c:Co):List Int->Co
 | []=>c
 | a::l=>Co.sweepAll (c.sweepOne a) l
def Co.wUnit(c:Co):Co × Bool:=if cf.pages<=c.at_ then (c,wl) else
 let d:=c.sweepAll (c.s.inP c.at_)
 ({ d with s:=d.s.trim d.at_,at_:=C7 (d.at_+1) },wk)
def Co.raise(c:Co)(p:Int):Co:={ c with phase:=p,r:=c.r.raise }
def Co.advance:Nat->Co->Co
 | 0,c=>c
 | d+1,c=>if c.r.agreed then
   if c.phase=1 then Co.advance d (({ c with b:=c.b.map λ_=>[],g:=c.g.shade cf.stack c.global }:Co).raise 2)
   else if c.phase=2 then Co.advance d { c with phase:=3 }
   else if c.phase=4/\CL c.b/\c.tIdle then Co.advance d { c with phase:=5,at_:=0,freed:=0 }
   else if c.phase=4 then Co.advance d { c with phase:=3 }
   else c
  else c
def Co.adv(c:Co):Co:=Co.advance cf 4 c
def Co.beginC(c:Co):Co × Bool:=if c.phase=0 then ((({ c with units:=0 }:Co).raise 1).adv cf,wk) else (c,wl)
def Co.marking(c:Co):Bool:=decide (2<=c.phase) && decide (c.phase<=4)
def Co.attach(c:Co)(t:Int):Co:={ c with r:=(c.r.attach t).1 }
def Co.detach(c:Co)(t:Int):Co:=if c.r.live t then
  let g:=if c.marking then c.g.shadeAll cf.stack (DQ c.b t) else c.g
  ({ c with b:=CT c.b t,g:=g,th:=c.th.set t.toNat [],s:=c.s.quit t,r:=c.r.detach t }:Co).adv cf
 else c
def D8(l:List V2):List Int:=l.foldl (λout v=>if v.1=2/\v.2∉out then out++[v.2] else out) []
def Co.poll(c:Co)(t:Int):Co:=if (c.r.confirm t).2 then
  let c1:Co:={ c with r:=(c.r.confirm t).1 }
  let c2:Co:=if c.phase=2 then { c1 with g:=c1.g.shadeAll cf.stack (D8 (c.th.getD t.toNat [])) }
   else if c.phase=4 then { c1 with g:=c1.g.shadeAll cf.stack (DQ c.b t),b:=CT c.b t } else c1
  c2.adv cf
 else c
def Co.unit(c:Co):Co × Bool:=
 let r:Co × Bool:=if c.phase=3 then (match c.tUnit cf with
   | (d,wk)=>(d,wk)
   | (d,wl)=>((d.raise 4).adv cf,wl))
  else if c.phase=5 then (match c.wUnit cf with
   | (d,did)=>(if cf.pages<=d.at_ then { d with phase:=0,cycles:=C7 (d.cycles+1) } else d,did))
  else (c,wl)
 (if r.2 then { r.1 with units:=C7 (r.1.units+1) } else r.1,r.2)
def Co.may(c:Co)(v:V2):Bool:=Dp v && (!decide (v.1=2) || decide (0<=c.s.fields v.2))
def Co.push(c:Co)(t:Int)(v:V2):Co × Bool:=if c.r.live t/\c.may v/\(c.th.getD t.toNat []).length<16 then ({ c with th:=c.th.set t.toNat (c.th.getD t.toNat []++[v]) },wk) else (c,wl)
def Co.pop(c:Co)(t:Int):Co × Option V2:=if c.r.live t then (match (c.th.getD t.toNat []).getLast? with
  | some v=>({ c with th:=c.th.set t.toNat (c.th.getD t.toNat []).dropLast },some v)
  | none=>(c,none)) else (c,none)
def Co.roots(c:Co)(t:Int):List V2:=if c.r.live t then c.th.getD t.toNat [] else[]
def Co.color(c:Co)(a:Int):Co:=if c.phase=2 then { c with g:=c.g.shade cf.stack a } else if c.phase=3∨c.phase=4∨(c.phase=5/\c.at_<=Cq a) then { c with g:=c.g.black a } else c
def Co.fast(c:Co)(t n:Int):Co × Option Int:=if c.r.live t then (match c.s.fast t n with
  | (_,wj)=>(c,wj)
  | (s,wh a)=>(({ c with s:=s }:Co).color cf a,wh a)) else (c,wj)
def Co.slow(c:Co)(t n:Int):Co × Int × Int:=if c.r.live t then (match c.s.slow cf.pages.toNat (cf.threads+1) t n with
  | (s,a,e)=>(if e=0 then ({ c with s:=s }:Co).color cf a else { c with s:=s },a,e)) else (c,0,4)
def Co.barrier(c:Co)(t:Int):Bool:=c.marking || (decide (c.phase=1) && decide (c.r.ofT t=c.r.ep))
def Co.write(c:Co)(t a i:Int)(v:V2):Co × Bool:=if c.r.live t/\c.may v/\(c.s.get a i).2 then
  let o:=(c.s.get a i).1
  let b:=if o.1=2/\¬c.g.is o.2/\c.barrier t then F3 c.b t o.2 else c.b
  ({ c with b:=b,s:=(c.s.set a i v).1 },(c.s.set a i v).2)
 else (c,wl)
end
def DH{α : Type}(f:Nat -> α)(t:Nat)(x : α):Nat -> α := λu=>if u=t then x else f u
def cnt(l:List Bool):Nat:=l.count wk
def Gt(k:Nat)(l:List Bool):List Bool:=l.drop (l.length-k)
def Fj(win most n:Int)(l:List Bool):Bool:=decide (0<=n/\n<=most/\(cnt (l.drop ((l.length:Int)+n-win).toNat):Int)+n<=most)
structure Cd where
 kd:Int
 t:Int
 i:Int
 f:Int
 j:Int
 cost:Int
 n:Int
deriving DecidableEq
structure Ch where
 code:Int
 kd:Int
 n:Int
 done:Int
 credit:Int
deriving DecidableEq
def Ch.ok:Ch:=⟨0,0,0,0,0⟩
def Ch.err(e:Int):Ch:=⟨e,0,0,0,0⟩
structure Ma where
 co:Co
 lg:Nat->List Bool
 bi:Int
 bo:Int
 bl:Int
def CP(k:Int):List Bool:=
 if k=1∨k=2∨k=5∨k=6∨k=8∨k=14 then[wk,wl,wl,wl,wl,wl] else
 if k=3∨k=15 then[wk,wl,wl,wl,wk,wk] else
 if k=4∨k=13 then[wk,wl,wl,wl,wl,wk] else
 if k=7∨k=12 then[wk,wk,wl,wl,wl,wl] else
 if k=9 then[wk,wk,wk,wl,wl,wl] else
 if k=10 then[wk,wk,wk,wk,wl,wl] else
 if k=11 then[wk,wk,wl,wk,wl,wl] else
 if k=16 then[wl,wl,wl,wl,wl,wk] else[wl,wl,wl,wl,wl,wl]
def Cd.small(x:Cd):List Int:=[x.t,x.i,x.f,x.j,x.cost]
def Cd.check(x:Cd):Int:=
 if x.kd<1∨17<x.kd then 12 else
 if x.small.any (λn=>decide (n<0) || decide (255<n)) then 4 else
 if (x.small.zip (CP x.kd)).any (λy=>decide (y.1≠0) && !y.2) then 16 else
 if x.n≠0/\(CP x.kd).getD 5 wl=wl then 16 else 0
section
variable(cf:Cf)
def Cf.most:Int:=(cf.window*(1000-cf.target)).tdiv 1000
def Ma.ownT(m:Ma)(t n:Int):Ma:={ m with lg:=DH m.lg t.toNat (Gt cf.window.toNat (m.lg t.toNat++List.replicate (min n cf.window).toNat wl)) }
def Ma.admt(m:Ma)(t n:Int):Bool:=Fj cf.window cf.most n (m.lg t.toNat)
def Ma.charge(m:Ma)(t n:Int):Ma:=if m.admt cf t n then { m with lg:=DH m.lg t.toNat (Gt cf.window.toNat (m.lg t.toNat++List.replicate (min n cf.window).toNat wk)) } else m
def Co.workN:Nat->Co->Co × Nat
 | 0,c=>(c,0)
 | d+1,c=>match c.unit cf with
  | (c',wl)=>(c',0)
  | (c',wk)=>((Co.workN d c').1,(Co.workN d c').2+1)
def Ma.put(m:Ma)(n:Int):Ma:=let kept:=min n (cf.cap-(m.bi-m.bo)); { m with bi:=m.bi+kept,bl:=m.bl+(n-kept) }
def Ma.ahead(m:Ma)(n:Int):Ma × Ch:=let r:=m.co.workN cf n.toNat; (({ m with co:=r.1 }:Ma).put cf r.2,⟨0,0,0,r.2,0⟩)
def Ma.told(m:Ma)(v:V2):Int × Int:=(v.1,if v.1=2 then m.co.s.serial v.2 else v.2)
def Ma.who(m:Ma)(x:Cd):Int:=if 16<=x.kd then 0 else if cf.threads<=x.t then 4 else if x.kd=1/\m.co.r.live x.t then 9 else if x.kd≠1/\¬m.co.r.live x.t then 14 else 0
def Ma.tax(m:Ma)(x:Cd):Ma × Ch:=if m.co.phase≠3/\m.co.phase≠5 then (m,Ch.ok) else
 let credit:=min (m.bi-m.bo) cf.tax
 let rest:=cf.tax-credit
 if ¬m.admt cf x.t (rest*x.cost) then (m,Ch.err 21) else
 let m1:Ma:={ m with bo:=m.bo+credit }
 let r:=m1.co.workN cf rest.toNat
 (({ m1 with co:=r.1 }:Ma).charge cf x.t (r.2*x.cost),⟨0,0,0,r.2,credit⟩)
def Ma.slow(m:Ma)(x:Cd):Ma × Int × Ch:=
 let m1:Ma:=if m.co.phase=0/\Dt m.co.s.c.ks<cf.trigger then { m with co:=(m.co.beginC cf).1 } else m
 let r:=m1.tax cf x
 if r.2.code≠0 then (r.1,0,r.2) else
 let q:=r.1.co.slow cf x.t x.n
 ({ r.1 with co:=q.1 },q.2.1,{ r.2 with code:=q.2.2 })
def EE(a:Int):V2:=if 0<=a/\a<2048 then (2,a) else (0,0)
def Ma.got(m:Ma)(x:Cd)(a:Int)(y:Ch):Ma × Ch:=
 let m1:Ma:={ m with co:=(m.co.push x.t (EE a)).1 }
 (m1,{ y with kd:=(m1.told (EE a)).1,n:=(m1.told (EE a)).2 })
def Ma.alloc(m:Ma)(x:Cd):Ma × Ch:=
 if x.n<0∨127<x.n∨x.cost<1∨cf.quantum<x.cost then (m,Ch.err 4) else
 if (m.co.roots x.t).length=16 then (m,Ch.err 3) else
 match m.co.fast cf x.t x.n with
 | (c,wh a)=>({ m with co:=c }:Ma).got x a Ch.ok
 | (_,wj)=>
  let r:=m.slow cf x
  if r.2.2.code≠0 then (r.1,r.2.2) else r.1.got x r.2.1 r.2.2
def Ma.root(m:Ma)(t i:Int):Option V2:=(m.co.roots t)[i.toNat]?
def Ma.object(m:Ma)(x:Cd):Int × Int:=match m.root x.t x.i with
 | none=>(0,4)
 | some v=>if v.1≠2 then (0,12) else (v.2,0)
def Ma.value(m:Ma)(x:Cd):V2 × Int:=
 if x.kd=4 then (if DL 1 x.n=0 then ((1,x.n),0) else ((0,0),4)) else
 if x.kd=6 then (EE m.co.global,0) else
 if x.kd=7 then (match m.root x.t x.i with | wh v=>(v,0) | wj=>((0,0),4)) else
 if x.kd=9 then (if (m.object x).2≠0 then ((0,0),(m.object x).2) else if (m.co.s.get (m.object x).1 x.f).2 then ((m.co.s.get (m.object x).1 x.f).1,0) else ((0,0),4)) else ((0,0),0)
def Ma.pushS(m:Ma)(x:Cd):Ma × Ch:=
 if (m.value x).2≠0 then (m,Ch.err (m.value x).2) else
 match m.co.push x.t (m.value x).1 with
 | (_,wl)=>(m,Ch.err 3)
 | (c,wk)=>let m1:Ma:={ m with co:=c }; (m1,⟨0,(m1.told (m.value x).1).1,(m1.told (m.value x).1).2,0,0⟩)
def Ma.writeS(m:Ma)(x:Cd):Ma × Ch:=
 if (m.object x).2≠0 then (m,Ch.err (m.object x).2) else
 match m.root x.t x.j with
 | none=>(m,Ch.err 4)
 | some v=>let r:=m.co.write x.t (m.object x).1 x.f v; ({ m with co:=r.1 },if r.2 then Ch.ok else Ch.err 4)
def Ma.ask(m:Ma)(x:Cd):Ch:=match m.root x.t x.i with
 | none=>Ch.err 4
 | some v=>if x.kd=11/\m.root x.t x.j=wj then Ch.err 4 else
  if x.kd=12/\v.1≠2 then Ch.err 12 else
  if x.kd=12 then⟨0,1,m.co.s.fields v.2,0,0⟩ else
  if v=(m.root x.t x.j).getD (0,0) then⟨0,1,1,0,0⟩ else⟨0,1,0,0,0⟩
def Ma.spend(m:Ma)(x:Cd):Ma × Ch:=
 if x.kd=17 then (if (m.co.beginC cf).2 then ({ m with co:=(m.co.beginC cf).1 },Ch.ok) else (m,Ch.err 9)) else
 if x.n<1∨64<x.n then (m,Ch.err 4) else
 if x.kd=13 then (m.ownT cf x.t x.n,Ch.ok) else
 if x.kd=16 then m.ahead cf x.n else
 if x.cost<1∨cf.quantum<x.cost then (m,Ch.err 4) else
 if ¬m.admt cf x.t (x.n*x.cost) then (m,Ch.err 21) else
 let r:=m.ahead cf x.n
 (r.1.charge cf x.t (r.2.done*x.cost),r.2)
def Ma.doS(m:Ma)(x:Cd):Ma × Ch:=
 if x.kd=1 then ({ m with co:=m.co.attach x.t },Ch.ok) else
 if x.kd=2 then ({ m with co:=m.co.detach cf x.t },Ch.ok) else
 if x.kd=3 then m.alloc cf x else
 if x.kd=4∨x.kd=5∨x.kd=6∨x.kd=7∨x.kd=9 then m.pushS x else
 if x.kd=8 then (match m.co.pop x.t with
  | (_,wj)=>(m,Ch.err 4)
  | (c,wh v)=>let m1:Ma:={ m with co:=c }; (m1,⟨0,(m1.told v).1,(m1.told v).2,0,0⟩)) else
 if x.kd=10 then m.writeS x else
 if x.kd=11∨x.kd=12 then (m,m.ask x) else
 if x.kd=14 then ({ m with co:=m.co.poll cf x.t },Ch.ok) else m.spend cf x
def Ma.step(m:Ma)(x:Cd):Ma × Ch:=
 if x.check≠0 then (m,Ch.err x.check) else
 if m.who cf x≠0 then (m,Ch.err (m.who cf x)) else
 let r:=m.doS cf x
 (if 3<=x.kd/\x.kd<=12/\r.2.code=0 then r.1.ownT cf x.t 1 else r.1,r.2)
def Ce.new(n:Int):Ce:=⟨List.replicate n.toNat 0,List.replicate (n.toNat*32) 0,List.replicate 64 (0,0),λ_=>wl⟩
def Co.new:Co:=
 let s:St:=⟨Ce.new cf.pages,λ_=>wj,0⟩
 let r:=s.slow cf.pages.toNat (cf.threads+1) cf.threads 4
 ⟨r.1,⟨[],wl,λ_=>wl⟩,⟨0,List.replicate cf.threads.toNat (wl,0)⟩,List.replicate cf.threads.toNat [], -1,cf.pages,0,List.replicate 8 [],r.2.1,0,0,0⟩
def Ma.new:Ma:=⟨Co.new cf,λ_=>[],0,0,0⟩
end
def DC{α : Type}{l:List α}{i:Nat}{d : α}(h:i<l.length):l.getD i d=l[i]:=by simp[xF,xS h]
def Uv{m:List Int}{a:Nat}(h:a<m.length):Cn m (a:Int)=m[a]:=by unfold Cn;rw[vy (by unfold ET;omega),zK,DC h]
def PZ{m:List Int}{b:Nat}(h:b<m.length):Cn m (b:Int)=(m[b]?).getD 0:=by rw[Uv h,xS h];rfl
def Ks{α : Type}{l:List α}{a n:Nat}{x : α}(h:a+n<=l.length)(b:Nat):(l.take a++List.replicate n x++l.drop (a+n))[b]?=if a<=b/\b<a+n then wh x else l[b]?:=by
 have e1:(l.take a).length=a:=by rw[i8];omega
 have e2:(l.take a++List.replicate n x).length=a+n:=by rw[zE,e1,yJ]
 rw[yP,e2];by_cases c1:b<a+n
 ·rw[vy c1,yP,e1];by_cases c2:a<=b
  ·rw[vx (by omega),xX,vy (by omega),vy ⟨c2,c1⟩]
  ·rw[vy (by omega),zD,vy (by omega),vx (by omega)]
 ·rw[vx c1,vx (by omega),zC];congr 1;omega
def Hy{m:List Int}{a n w b:Int}(h:ET m a n)(hb:0<=b)(hl:b<m.length):Cn (CX m a n w) b=if a<=b/\b<a+n then w else Cn m b:=by
 have hlen:=Dw m a n w;obtain⟨b,rfl⟩:=xU hb;have hb':b<m.length:=by omega
 rw[PZ (by omega),PZ hb'];have h':=h;unfold ET at h';obtain⟨a,rfl⟩:=xU h'.1;obtain⟨n,rfl⟩:=xU h'.2.1;unfold CX;rw[vy h,zK,zK,Ks (by omega)];by_cases c:a<=b/\b<a+n
 ·rw[vy c,vy (by omega)];rfl
 ·rw[vx c,vx (by omega)]
def GN{m:List Int}{a w b:Int}(h0:0<=a)(h1:a<m.length)(hb:0<=b)(hl:b<m.length):Cn (DN m a w) b=if b=a then w else Cn m b:=by
 unfold DN;rw[Hy (by unfold ET;omega) hb hl];by_cases c:b=a
 ·rw[vy (by omega),vy c]
 ·rw[vx (by omega),vx c]
def E5(m:List Int)(a w:Int):(DN m a w).length=m.length:=Dw _ _ _ _
def E1(k:Int):(k=1/\BV k=2/\BR k=16)∨(k=2/\BV k=4/\BR k=8)∨(k=3/\BV k=8/\BR k=4)∨(k=4/\BV k=16/\BR k=2)∨((k<1∨4<k)/\BV k=0/\BR k=0):=by
 by_cases h1:k=1
 ·subst h1;exact .inl ⟨rfl,rfl,rfl⟩
 by_cases h2:k=2
 ·subst h2;exact .inr (.inl ⟨rfl,rfl,rfl⟩)
 by_cases h3:k=3
 ·subst h3;exact .inr (.inr (.inl ⟨rfl,rfl,rfl⟩))
 by_cases h4:k=4
 ·subst h4;exact .inr (.inr (.inr (.inl ⟨rfl,rfl,rfl⟩)))
 refine .inr (.inr (.inr (.inr ⟨by omega,?_,?_⟩)))
 ·unfold BV;rw[vx h1,vx h2,vx h3,vx h4]
 ·unfold BR;rw[vx h1,vx h2,vx h3,vx h4]
def FP{ks:List Int}{p:Nat}(h:p<ks.length):BT ks (p:Int)=ks[p]:=by unfold BT;rw[vy (by omega),zK,DC h]
def Eg{ks:List Int}{p:Int}(h:¬(0<=p/\p<ks.length)):BT ks p = -1:=by unfold BT;rw[vx h]
def Mx{ks:List Int}{p:Nat}{k:Int}(q:Nat)(h:p<ks.length):BT (ks.set p k) (q:Int)=if q=p then k else BT ks (q:Int):=by
 by_cases hq:q<ks.length
 ·rw[FP (by simpa using hq),FP hq,d8];by_cases c:p=q
  ·subst c;simp
  ·rw[vx c,vx (vv c)]
 ·rw[Eg (by simp;omega),Eg (by omega),vx (by omega)]
def D6{ks:List Int}{p n:Nat}{k:Int}(h:p+n<=ks.length):(Dj ks p n k).length=ks.length:=by unfold Dj;simp only[zE,i8,yJ,i7];omega
def IU{ks:List Int}(p:Nat):BT ks (p:Int)=(ks[p]?).getD (-1):=by
 by_cases h:p<ks.length
 ·rw[FP h,xS h];rfl
 ·rw[Eg (by omega),yG (by omega)];rfl
def Mw{ks:List Int}{p n:Nat}{k:Int}(q:Nat)(h:p+n<=ks.length):BT (Dj ks p n k) (q:Int)=if p<=q/\q<p+n then k else BT ks (q:Int):=by
 rw[IU,IU];unfold Dj;rw[Ks h];by_cases c:p<=q/\q<p+n
 ·rw[vy c,vy c];rfl
 ·rw[vx c,vx c]
theorem Hw:∀(ks:List Int),DI ks<=ks.length/\(∀(i:Nat),i<DI ks->ks[i]?=wh 6)/\ks[DI ks]?≠wh 6
 | []=>⟨by simp[DI],by simp[DI],by simp⟩
 | k::ks=>by
  obtain⟨h1,h2,h3⟩:=Hw ks;have e:DI (k::ks)=if k=6 then DI ks+1 else 0:=rfl;by_cases c:k=6
  ·rw[vy c]at e;rw[e];refine⟨by simp;omega,λi hi=>?_,by simpa using h3⟩;cases i with
   | zero=>simpa using c
   | succ i=>simpa using h2 i (by omega)
  ·rw[vx c]at e;rw[e];exact⟨by simp,λi hi=>by omega,by simpa using c⟩
def Un(ks:List Int)(n:Nat)(h2:∀i,i<n->ks[i]?=wh 6)(h3:ks[n]?≠wh 6):DI ks=n:=by
 obtain⟨g1,g2,g3⟩:=Hw ks;rcases Nat.lt_trichotomy (DI ks) n with c|c|c
 ·exact absurd (h2 _ c) g3
 ·exact c
 ·exact absurd (g2 n c) h3
def GW(m:List Int)(p:Nat)(k:Int):Int->List Nat->Prop
 | f,[]=>f=BR k
 | f,i::L=>f=i/\∃x,Cn m (32*p+i*BV k) = -1-x/\GW m p k x L
theorem GW.keep{m m':List Int}{p:Nat}{k:Int}:∀ {f:Int} {L:List Nat},GW m p k f L->(∀i∈L,Cn m' (32*p+i*BV k)=Cn m (32*p+i*BV k))->GW m' p k f L
 | _,[],h,_=>h
 | _,i::L,⟨h1,x,h2,h3⟩,h=>⟨h1,x,by rw[h i (by simp),h2],GW.keep h3 λj hj=>h j (by simp[hj])⟩
structure Lr(c:Ce)(p:Nat)(k:Int)(L:List Nat):Prop where
 nd:L.Nodup
 mem:∀i:Nat,i∈L↔(i:Int)<BR k/\c.tk (32*p+i*(BV k).toNat)=wl
 ch:GW c.m p k (c.chain p).1 L
 n:(c.chain p).2=L.length
structure CI(c:Ce):Prop where
 np:c.ks.length<=64
 ml:c.m.length=c.ks.length*32
 cl:c.ch.length=64
 tk:∀a:Nat,c.tk a=wk->a / 32<c.ks.length/\((0<BV (BT c.ks ((a / 32:Nat):Int))/\(a:Int) % BV (BT c.ks ((a / 32:Nat):Int))=0)∨(BT c.ks ((a / 32:Nat):Int)=5/\a % 32=0))
 six:∀p:Nat,BT c.ks (p:Int)=6->1<=p/\(BT c.ks ((p-1:Nat):Int)=5∨BT c.ks ((p-1:Nat):Int)=6)
 fr:∀p:Nat,0<BV (BT c.ks (p:Int))->∃L,Lr c p (BT c.ks (p:Int)) L
def IV(ks:List Int):∀(p:Nat),(BT ks (p:Int)≠6->E4 ks p=p)/\(BT ks ((p+1:Nat):Int)=6->E4 ks (p+1)=E4 ks p)
 | 0=>⟨λh=>by unfold E4;rw[vx (by simpa using h)];rfl,λh=>by
  show (if BT ks ((0+1:Nat):Int)=6 then E4 ks 0 else _)=E4 ks 0;rw[vy h]⟩
 | p+1=>⟨λh=>by rw[E4,vx h],λh=>by rw[E4,vy h]⟩
theorem J9{ks:List Int}{p:Nat}(h:BT ks (p:Int)≠6):∀(d:Nat),(∀i,i<d->BT ks ((p+1+i:Nat):Int)=6)->E4 ks (p+d)=p
 | 0,_=>(IV ks p).1 h
 | d+1,hd=>by
  have:=(IV ks (p+d)).2 (by have:=hd d (by omega);rwa [show p+1+d=p+d+1 by omega]at this);rw[show p+(d+1)=p+d+1 by omega,this];exact J9 h d λi hi=>hd i (by omega)
def HG{ks:List Int}{p:Nat}(h:BT ks (p:Int) ≠ -1):p<ks.length:=by apply xI;intro hc;exact h (Eg (by omega))
def Ed{ks:List Int}{p:Nat}(h:BT ks (p:Int)=5):1<=Cr ks p/\p+Cr ks p<=ks.length/\(∀i,i+1<Cr ks p->BT ks ((p+1+i:Nat):Int)=6)/\BT ks ((p+Cr ks p:Nat):Int)≠6:=by
 have hp:=HG (ks:=ks) (p:=p) (by rw[h];decide);have e:Cr ks p=DI (ks.drop (p+1))+1:=by unfold Cr;rw[h,vx (by decide),vy rfl,zK]
 obtain⟨h1,h2,h3⟩:=Hw (ks.drop (p+1));rw[i7]at h1;rw[e];refine⟨by omega,by omega,λi hi=>?_,?_⟩
 ·have:=h2 i (by omega);rw[zC]at this;rw[IU,this];rfl
 ·rw[zC]at h3;rw[IU];intro hc;rw[show p+(DI (ks.drop (p+1))+1)=p+1+DI (ks.drop (p+1)) by omega]at hc;cases hx:ks[p+1+DI (ks.drop (p+1))]? with
  | none=>rw[hx]at hc;simp at hc
  | some x=>rw[hx]at hc h3;simp at hc;subst hc;exact h3 rfl
def Pn{ks:List Int}{p:Nat}(h:0<BV (BT ks (p:Int))):Cr ks p=1:=by unfold Cr;rw[vy h]
def IP:BV 5=0:=rfl
def Y3:BV 6=0:=rfl
def Ce.rsz(c:Ce)(a:Nat):Nat:=if BT c.ks ((a / 32:Nat):Int)=5 then 32*Cr c.ks ((a / 32:Nat):Int) else (BV (BT c.ks ((a / 32:Nat):Int))).toNat
def Oo(ks:List Int)(x:Nat):Int:=let q:=E4 ks (x / 32);if BT ks q=5 then 32*q else x-x % BV (BT ks q)
def IT{ks:List Int}{x:Nat}(h:0<BV (BT ks ((x / 32:Nat):Int))):Oo ks x=x-x % BV (BT ks ((x / 32:Nat):Int)):=by
 have h6:BT ks ((x / 32:Nat):Int)≠6:=λe=>by rw[e,Y3]at h;omega
 have h5:BT ks ((x / 32:Nat):Int)≠5:=λe=>by rw[e,IP]at h;omega
 unfold Oo;simp only[(IV ks (x / 32)).1 h6,vx h5]
section
variable{c:Ce}
def HF{k:Int}{a x:Nat}(hk:0<BV k)(ha:(a:Int) % BV k=0)(h1:a<=x)(h2:x<a+(BV k).toNat):x / 32=a / 32/\(x:Int)-x % BV k=a:=by rcases E1 k with⟨_,e,_⟩|⟨_,e,_⟩|⟨_,e,_⟩|⟨_,e,_⟩|⟨_,e,_⟩<;>rw[e]at hk ha h2 ⊢<;>omega
def CI.home_in(h:CI c){a x:Nat}(ha:c.tk a=wk)(h1:a<=x)(h2:x<a+c.rsz a):Oo c.ks x=a:=by
 obtain⟨hp,hk⟩:=h.tk a ha;unfold Ce.rsz at h2;rcases hk with⟨hk,hm⟩|⟨hk,hm⟩
 ·have h5:BT c.ks ((a / 32:Nat):Int)≠5:=λe=>by rw[e,IP]at hk;omega
  rw[vx h5]at h2;obtain⟨e1,e2⟩:=HF hk hm h1 h2;rw[IT (by rw[e1];exact hk),e1,e2]
 ·rw[vy hk]at h2;obtain⟨s1,s2,s3,s4⟩:=Ed hk;generalize hs:Cr c.ks ((a / 32:Nat):Int)=z at *;have hd:x / 32=a / 32+(x / 32-a / 32):=by omega
  have:=J9 (ks:=c.ks) (p:=a / 32) (by rw[hk];decide) (x / 32-a / 32) λi hi=>s3 i (by omega);unfold Oo;rw[hd,this];simp only[hk,vu];omega
def CI.apart(h:CI c){a b x:Nat}(ha:c.tk a=wk)(hb:c.tk b=wk)(h1:a<=x)(h2:x<a+c.rsz a)(h3:b<=x)(h4:x<b+c.rsz b):a=b:=by have:=h.home_in ha h1 h2;have:=h.home_in hb h3 h4;omega
def CI.rsz_pos(h:CI c){a:Nat}(ha:c.tk a=wk):1<=c.rsz a/\a+c.rsz a<=c.m.length:=by
 obtain⟨hp,hk⟩:=h.tk a ha;have hml:=h.ml;unfold Ce.rsz;rcases hk with⟨hk,hm⟩|⟨hk,hm⟩
 ·have h5:BT c.ks ((a / 32:Nat):Int)≠5:=λe=>by rw[e,IP]at hk;omega
  rw[vx h5];generalize BT c.ks ((a / 32:Nat):Int)=k at *;rcases E1 k with⟨_,e,_⟩|⟨_,e,_⟩|⟨_,e,_⟩|⟨_,e,_⟩|⟨_,e,_⟩<;>rw[e]at hk hm ⊢<;>omega
 ·rw[vy hk];obtain⟨s1,s2,s3,s4⟩:=Ed hk;omega
def CG{ks:List Int}{p i:Nat}{k:Int}(hk:BT ks (p:Int)=k)(h0:0<BV k)(hi:(i:Int)<BR k):
  (32*p+i*(BV k).toNat) / 32=p/\((32*p+i*(BV k).toNat:Nat):Int) % BV k=0/\Oo ks (32*p+i*(BV k).toNat)=((32*p+i*(BV k).toNat:Nat):Int)/\((32*p+i*(BV k).toNat:Nat):Int)=32*p+i*BV k/\32*p+i*(BV k).toNat+(BV k).toNat<=32*p+32:=by
 have key:(32*p+i*(BV k).toNat) / 32=p/\((32*p+i*(BV k).toNat:Nat):Int) % BV k=0/\((32*p+i*(BV k).toNat:Nat):Int)=32*p+i*BV k/\32*p+i*(BV k).toNat+(BV k).toNat<=32*p+32:=by rcases E1 k with⟨_,e,f⟩|⟨_,e,f⟩|⟨_,e,f⟩|⟨_,e,f⟩|⟨_,e,f⟩<;>rw[e]at h0 ⊢<;>rw[f]at hi<;>simp only[Int.reduceToNat]<;>omega
 obtain⟨k1,k2,k3,k4⟩:=key;refine⟨k1,k2,?_,k3,k4⟩;rw[IT (by rw[k1,hk];exact h0),k1,hk,k2];omega
def CI.free_apart(h:CI c){a x p i:Nat}{k:Int}(ha:c.tk a=wk)(h1:a<=x)(h2:x<a+c.rsz a)(hk:BT c.ks (p:Int)=k)(h0:0<BV k)(hi:(i:Int)<BR k)(hf:c.tk (32*p+i*(BV k).toNat)=wl):(x:Int)≠32*p+i*BV k:=by
 obtain⟨_,_,e,e2,_⟩:=CG hk h0 hi;intro hx;have:x=32*p+i*(BV k).toNat:=by omega
 subst this;have:=h.home_in ha h1 h2;rw[e]at this;have:32*p+i*(BV k).toNat=a:=by omega
 rw[this,ha]at hf;cases hf
def CI.words(h:CI c){m':List Int}(hl:m'.length=c.m.length)(hw:∀x:Nat,x<c.m.length->Cn m' (x:Int)≠Cn c.m (x:Int)->∃a,c.tk a=wk/\a<=x/\x<a+c.rsz a):CI { c with m:=m' }:=by
 refine⟨h.np,by simp only;rw[hl];exact h.ml,h.cl,h.tk,h.six,λp hp=>?_⟩;obtain⟨L,hL⟩:=h.fr p hp;refine⟨L,hL.nd,hL.mem,hL.ch.keep λi hi=>?_,hL.n⟩;obtain⟨q1,q2⟩:=(hL.mem i).1 hi;obtain⟨e1,_,_,e4,e5⟩:=CG (ks:=c.ks) (p:=p) (i:=i) rfl hp q1;have hpl:=HG (ks:=c.ks) (p:=p) (by intro e;rw[e]at hp;revert hp;decide);have hml:=h.ml;rw[<-e4];apply xI;intro hne;obtain⟨a,ha,h1,h2⟩:=hw _ (by omega) hne
 exact h.free_apart ha h1 h2 rfl hp q1 q2 e4
end
end
end Go.Proofs.QV
