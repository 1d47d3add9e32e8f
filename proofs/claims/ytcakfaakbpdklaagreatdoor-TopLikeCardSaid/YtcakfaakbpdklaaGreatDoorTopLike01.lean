/- Part 1 of what the law needs: own lemmas, in the order in which they build. -/
import Derived.WalkKit
import Derived.OrdersHeld
import Derived.KernelRfl
import Derived.Below
import Derived.OrdersIn
import Derived.TacticsIn
import Derived.RangeFuncSeq
import Derived.Scope
import Derived.Tactics
import Derived.RangeFuncIn
import Derived.RangeFuncLeaves
import Derived.RangeFuncRecord
import Derived.Carry
import Derived.ChangeOld
import Derived.SizedLaws
import Derived.Deep.Slices
import Derived.OpenShut
import Derived.ProofKit
import Derived.Maps.AppendAt
import Derived.Laws.OwnMore
import Derived.Laws.CopyRow
import Derived.Laws.IdiomCopy
import Derived.Maps.RangeRun
import Derived.Test.YtcakfaakbpdklaaGreatDoorProg
set_option linter.defProp false
set_option linter.unusedSimpArgs false
set_option linter.unusedVariables false
set_option maxRecDepth 100000
namespace Go.Proofs.QV
open Go Go.Proofs.Tryz
open Go.Proofs.Tryz renaming prog->vp
open Option renaming some->vz
open Option renaming none->v6
open Bool renaming true->v7
open Bool renaming false->v8
open Go renaming Value->wc
open Go renaming World->wd
open Go renaming Program->we
def wT.{u}:=@List.take_succ_eq_append_getElem.{u}
def wV.{u}:=@Array.getElem?_setIfInBounds_ne.{u}
def wW.{u}:=@List.eq_nil_of_length_eq_zero.{u}
def wX.{u}:=@Array.getElem?_setIfInBounds.{u}
def wY.{u}:=@Array.getElem?_eq_some_iff.{u}
def wZ:=@Int.fdiv_eq_ediv_of_nonneg
def xA:=@Int.tdiv_eq_ediv_of_nonneg
def xB:=@Int.tmod_eq_emod_of_nonneg
def xC.{u}:=@List.getD_eq_getElem?_getD.{u}
def xD.{u}:=@List.getElem?_append_right.{u}
def xE.{u}:=@Array.getElem?_eq_getElem.{u}
def xF:=@Classical.byContradiction
def xG.{u}:=@List.drop_eq_getElem_cons.{u}
def xH.{u}:=@List.getElem?_append_left.{u}
def xI.{u}:=@List.getElem?_eq_some_iff.{u}
def xJ.{u}:=@List.getElem_append_right.{u}
def xK.{u}:=@List.mem_or_eq_of_mem_set.{u}
def xL.{u}:=@List.pairwise_iff_getElem.{u}
def xM.{u}:=@Option.isNone_iff_eq_none.{u}
def xN.{u}:=@List.eq_of_mem_replicate.{u}
def xO.{u}:=@List.getElem?_eq_getElem.{u}
def xP.{u}:=@List.getElem_append_left.{u}
def xQ:=@Int.eq_ofNat_of_zero_le
def xR.{u}:=@List.getElem?_cons_succ.{u}
def xS.{u}:=@List.getElem?_cons_zero.{u}
def xT.{u}:=@List.getElem?_replicate.{u}
def xU:=@decide_eq_false_iff_not
def xV.{u}:=@List.drop_of_length_le.{u}
def xW.{u}:=@List.getElem_replicate.{u}
def xX.{u}:=@List.take_of_length_le.{u}
def xY:=@Nat.ne_of_beq_eq_false
def xZ.{u,v}:=@Option.map_eq_some_iff.{u,v}
def yA.{u}:=@Array.getElem?_modify.{u}
def yB.{u}:=@Array.getElem?_toList.{u}
def yC.{u}:=@List.getElem?_eq_none.{u}
def yD.{u}:=@List.getElem?_toArray.{u}
def yE.{u}:=@List.length_filter_le.{u}
def yF.{u}:=@List.length_replicate.{u}
def yG.{u}:=@List.mem_iff_getElem?.{u}
def yH.{u}:=@List.take_append_drop.{u}
def yI:=@Nat.eq_of_beq_eq_true
def yJ:=@Nat.le_of_ble_eq_true
def yK.{u}:=@List.dropLast_subset.{u}
def yL.{u}:=@List.getElem?_append.{u}
def yM.{u}:=@List.mem_iff_getElem.{u}
def yN.{u}:=@List.mem_of_getElem?.{u}
def yO.{u}:=@List.mem_of_mem_take.{u}
def yP:=@Nat.mul_le_mul_right
def yQ:=@Nat.pow_lt_pow_right
def yR:=@Int.toNat_of_nonneg
def yS.{u}:=@List.getElem_of_mem.{u}
def yT:=@Bool.false_eq_true
def yU.{u}:=@List.filter_append.{u}
def yV.{u}:=@List.find?_eq_none.{u}
def yW.{u}:=@List.getElem?_drop.{u}
def yX.{u}:=@List.getElem?_take.{u}
def yY.{u}:=@List.length_append.{u}
def yZ.{u}:=@List.mem_singleton.{u}
def zA:=@Nat.lt_of_lt_of_le
def zB.{u}:=@Option.toList_some.{u}
def zC.{u}:=@List.pairwise_cons.{u}
def zD:=@Bool.not_eq_true'
def zE:=@Int.toNat_natCast
def zF.{u}:=@List.ext_getElem?.{u}
def zG.{u}:=@List.flatten_cons.{u}
def zH.{u,v}:=@List.getElem?_map.{u,v}
def zI.{u}:=@List.getElem?_set.{u}
def zJ:=@List.length_range
def zK.{u}:=@List.nodup_append.{u}
def zL.{u}:=@List.take_add_one.{u}
def zM.{u}:=@Option.some.injEq.{u}
def zN:=@Go.Result.andThen_ok
def zO:=@Go.Value.slice.injEq
def zP:=@decide_eq_true_eq
def zQ:=@not_true_eq_false
def zR:=@not_false_eq_true
def zS:=@Bool.and_eq_true
def zT.{u}:=@List.all_eq_true.{u}
def zU.{u}:=@List.drop_length.{u}
def zV.{u,v}:=@List.getElem_map.{u,v}
def zW.{u}:=@List.getElem_mem.{u}
def zX.{u}:=@List.getElem_set.{u}
def zY.{u}:=@List.length_cons.{u}
def zZ.{u}:=@List.length_drop.{u}
def b7.{u}:=@List.length_take.{u}
def b8.{u}:=@List.not_mem_nil.{u}
def d7.{u}:=@List.take_length.{u}
def d8.{u}:=@Option.getD_some.{u}
def d9:=@decide_eq_decide
def f9:=@Bool.eq_iff_iff
def i6.{u,v}:=@List.length_map.{u,v}
def i7.{u}:=@List.length_nil.{u}
def i8.{u}:=@List.length_set.{u}
def i9.{u,v}:=@List.map_append.{u,v}
def j4.{u}:=@List.mem_append.{u}
def j5.{u}:=@List.nil_append.{u}
def j6.{u}:=@List.nodup_cons.{u}
def j7:=@List.range_succ
def j8.{u,v}:=@Option.map_some.{u,v}
def j9.{u}:=@Option.some.inj.{u}
def m7.{u}:=@List.mem_filter.{u}
def m8:=@decide_eq_false
def m9:=@Bool.not_false
def n4:=@Int.mul_le_mul
def n7:=@Int.mul_nonneg
def n9:=@List.mem_range
def o8:=@decide_eq_true
def o9:=@Go.run_underlying
def p7:=@Bool.not_true
def p9:=@Int.ofNat.inj
def q9.{u,v}:=@List.map_cons.{u,v}
def un.{u}:=@List.mem_cons.{u}
def uo:=@Nat.add_assoc
def uq.{u,v}:=@Prod.mk.injEq.{u,v}
def ur:=@Int.le_trans
def ut.{u,v}:=@List.map_nil.{u,v}
def uu.{u,v}:=@List.mem_map.{u,v}
def uv:=@Nat.add_zero
def uw:=@Nat.le_trans
def ux:=@Nat.mul_comm
def uy:=@Nat.zero_add
def uz.{u,v}:=@Prod.ext_iff.{u,v}
def u1:=@Go.Sem.run_bind
def u2:=@Go.Sem.run_pure
def u4:=@decide_false
def u6.{u,v}:=@List.map_set.{u,v}
def u7:=@Int.le_refl
def u9:=@Nat.add_mul
def va:=@Nat.le_refl
def vb:=@Nat.mul_one
def vd.{u}:=@Array.ext'.{u}
def ve:=@And.intro
def vf.{u}:=@cond_true.{u}
def vg.{u}:=@if_false.{u}
def vh.{u,v}:=@congrArg.{u,v}
def vi:=@or_false
def vj.{u}:=@if_true.{u}
def vk.{u}:=@Ne.symm.{u}
def vl.{u}:=@eq_self.{u}
def vm.{u}:=@if_neg.{u}
def vn.{u}:=@if_pos.{u}
def vo.{u}:=@ne_eq.{u}
abbrev C1:=List (Nat × wc)
def lk:C1->Nat->Option wc
 | [],_=>v6
 | (k,v)::r,t=>cond (Nat.beq k t) (vz v) (lk r t)
def Ea:Nat:=4294967291
def GC(env:C1)(t:Nat):Option wc:=cond (Nat.beq t Ea) v6 (lk env t)
def Hk{env:C1}{t:Nat}{v:wc}(h:GC env t=vz v):t≠Ea/\lk env t=vz v:=by
 unfold GC at h;cases hb:Nat.beq t Ea with
 | true=>rw[hb]at h;cases h
 | false=>rw[hb]at h;exact⟨xY hb,h⟩
def Na{env:C1}{t:Nat}{v:wc}(h1:t≠Ea)(h:lk env t=vz v):GC env t=vz v:=by
 unfold GC;cases hb:Nat.beq t Ea with
 | true=>exact absurd (yI hb) h1
 | false=>exact h
def ev(env:C1):Operand->Option wc
 | .tmp t=>GC env t
 | .const v=>vz v
 | .global g=>vz (.pointer (vz ⟨g,0,v6⟩))
 | .func f=>vz (.func (.func f) #[] #[])
def EN(env:C1):List Deferred:=match lk env Ea with
 | some (.int _ D)=>[{ target := .collected D.toNat,args := #[] }]
 | _=>[]
structure De(n:Nat)(env:C1)(a:Act):Prop where
 defers:a.defers=EN env
 size:a.tmps.size=n
 has:∀t v,GC env t=vz v->a.tmps[t]?=vz v
def De.eval{n:Nat}{env:C1}{a:Act}(h:De n env a){x:Operand}{v:wc}(hv:ev env x=vz v):a.eval x=v:=by
 cases x with
 | tmp t=>simp[ev]at hv;simp[Act.eval,h.has t v hv]
 | const c=>simp[ev]at hv;simpa[Act.eval] using hv
 | global g=>simp[ev]at hv;simpa[Act.eval] using hv
 | func f=>simp[ev]at hv;simpa[Act.eval] using hv
def GV(k t:Nat)(v:wc)(r:C1):lk ((k,v)::r) t=if k=t then vz v else lk r t:=by
 simp only[lk];cases h:Nat.beq k t with
 | true=>have:k=t:=yI h;simp[this]
 | false=>have:k≠t:=xY h;simp[this]
def De.put{n:Nat}{env:C1}{a:Act}(h:De n env a){d:Nat}(v:wc)(hd:d<n)(hm:d≠Ea):De n ((d,v)::env) (a.put (vz d) v):=by
 refine⟨?_,by simpa[Act.put] using h.size,λt u hu=>?_⟩
 ·have:EN ((d,v)::env)=EN env:=by unfold EN;rw[GV,vm hm]
  rw[this];exact h.defers
 ·obtain⟨ht,hu⟩:=Hk hu;rw[GV]at hu;by_cases hdt:d=t
  ·subst hdt;simp only[vj,zM]at hu;subst hu;have:=h.size;simp[Act.put,this,hd]
  ·simp only[hdt,vg]at hu;have:=h.has t u (Na ht hu);simp[Act.put,hdt,this]
def De.mono{n:Nat}{env env':C1}{a:Act}(h:De n env a)(hs:∀t v,lk env' t=vz v->lk env t=vz v)(hm:(lk env Ea).isSome=v7->(lk env' Ea).isSome=v7):De n env' a:=by
 refine⟨?_,h.size,λt v hv=>?_⟩
 ·have:EN env'=EN env:=by
   unfold EN;cases h1:lk env' Ea with
   | some v=>rw[hs _ _ h1]
   | none=>
    cases h2:lk env Ea with
    | none=>rfl
    | some v=>rw[h1,h2]at hm;exact absurd (hm rfl) (by simp)
  rw[this];exact h.defers
 ·obtain⟨ht,hv⟩:=Hk hv;exact h.has t v (Na ht (hs t v hv))
abbrev VK:=wc->wd->Prop
def Fx(w:wd)(a:Addr)(i:Nat):Nat->Option (List wc)
 | 0=>vz []
 | n+1=>match w.cell? (a.add i),Fx w a (i+1) n with
  | some v,some r=>some (v::r)
  | _,_=>v6
def Fy:List wc->Nat->Addr->wd->(wd->Prop)->Prop
 | [],_,_,w,K=>K w
 | v::r,i,a,w,K=>v.oneCell'=v7/\(∃u,w.cell? (a.add i)=vz u)/\w.frozen? (a.add i)=v8/\Fy r (i+1) a (w.setCell (a.add i) v) K
def G9(P:we)(t:TypeId):Option Nat:=(P.info? t).map (·.size)
def Ks(P:we)(t:TypeId):Option Bool:=(P.underlying t).map λd=>match d with | .struct _ | .array _ _=>v7 | _=>v8
def KR(P:we)(t:TypeId):Option wc:=(P.info? t).bind (·.zero)
def Le(P:we)(s:TypeId)(f:Nat):Option Field:=match P.underlying s with | vz (.struct fs)=>fs[f]? | _=>v6
def IH(P:we)(t:TypeId):Option (Nat × TypeId):=match P.underlying t with | vz (.array n e)=>vz (n,e) | _=>v6
def Fk(P:we)(t:TypeId):Option TypeId:=match P.underlying t with | vz (.slice e)=>vz e | _=>v6
def Af(c:wc)(A B:Prop):Prop:=∃t:Bool,c=.bool t/\(t=v7->A)/\(t=v8->B)
def Ar(c a b:Option wc)(w:wd)(K:VK):Prop:=∃t:Bool,c=vz (.bool t)/\∃v,(cond t a b)=vz v/\K v w
def Ad(p:wc)(w:wd)(K:VK):Prop:=∃a v,p=.pointer (vz a)/\w.cell? a=vz v/\K v w
def Ak(n:Nat)(p:wc)(w:wd)(K:VK):Prop:=∃a cs,p=.pointer (vz a)/\Fx w a 0 n=vz cs/\K (.agg cs.toArray) w
def Aj(n:Nat)(p x:wc)(w:wd)(K:wd->Prop):Prop:=∃a,p=.pointer (vz a)/\x.cells.size=n/\Fy x.cells.toList 0 a w K
def Aw(o:Obj)(w:wd)(K:VK):Prop:=K (.pointer (vz ⟨w.heap.size,0,v6⟩)) (w.alloc o)
def Ab(off:Nat)(p:wc)(w:wd)(K:VK):Prop:=∃a,p=.pointer (vz a)/\K (.pointer (vz (a.add off))) w
def KA:wc->Bool
 | .pointer v6 | .nilIface | .nilFunc=>v8
 | .func (.method _) _ _=>v8
 | _=>v7
def Ag(p:wc)(w:wd)(K:VK):Prop:=KA p=v7/\K p w
def Fu(op:BinOp)(k:IntKind)(a b:Int):Option wc:=
 match op with
 | .add=>vz (.int k (k.wrap (a+b)))
 | .sub=>vz (.int k (k.wrap (a-b)))
 | .mul=>vz (.int k (k.wrap (a*b)))
 | .eql=>vz (.bool (a == b))
 | .neq=>vz (.bool (a != b))
 | .lss=>vz (.bool (decide (a<b)))
 | .leq=>vz (.bool (decide (a<=b)))
 | .gtr=>vz (.bool (decide (a>b)))
 | .geq=>vz (.bool (decide (a≥b)))
 | _=>v6
def U(op:BinOp)(x y:wc)(w:wd)(K:VK):Prop:=∃k a b v,x=.int k a/\y=.int k b/\Fu op k a b=vz v/\K v w
def AG(P:we)(op:BinOp)(t:TypeId)(ox oy:Operand)(x y:wc)(w:wd)(K:VK):Prop:=
 ∃v,(do eqGuard op t ox oy x y;binOp op t x y:Sem wc).run P w=.ok v w/\K v w
def Pz(P:we)(t:TypeId):Bool:=match P.underlying t with | vz (.int _)=>v7 | _=>v8
def Kc:BinOp->Bool
 | .add | .sub | .mul | .eql | .neq | .lss | .leq | .gtr | .geq=>v7
 | _=>v8
def Am(P:we)(s:Sem wc)(w:wd)(K:VK):Prop:=∃v w',s.run P w=.ok v w'/\K v w'
def B0(P:we)(s:Sem Unit)(w:wd)(K:wd->Prop):Prop:=∃w',s.run P w=.ok () w'/\K w'
def AE(x:wc)(w:wd)(K:VK):Prop:=∃b,x=.bool b/\K (.bool !b) w
def Av(i:Nat)(x:wc)(w:wd)(K:VK):Prop:=∃vs v,x=.tuple vs/\vs[i]?=vz v/\K v w
def I(P:we)(f:FuncId)(args:Array wc)(w:wd)(K:VK):Prop:=Calls P f args w λe w'=>∃v,e=.returned v/\K v w'
def A6(n:Nat)(x i:wc)(w:wd)(K:VK):Prop:=
 ∃g len cap k j,x=.slice (vz g) len cap/\i=.int k j/\0<=j/\j<(len:Int)/\K (.pointer (vz (g.add (j.toNat*n)))) w
def AP(ln n:Nat)(x i:wc)(w:wd)(K:VK):Prop:=
 ∃g k j,x=.pointer (vz g)/\i=.int k j/\0<=j/\j<(ln:Int)/\K (.pointer (vz (g.add (j.toNat*n)))) w
def AH(x:wc)(w:wd)(K:VK):Prop:=∃g n c,x=.slice g n c/\K (.int .i64 (n:Int)) w
def Bh(k:IntKind)(x:wc)(w:wd)(K:VK):Prop:=∃k' a,x=.int k' a/\K (.int k (k.wrap a)) w
def DX(P : we)(f : FuncId) : Bool := match P.funcs[f]? with | vz fn => fn.body.isSome && !(fn.name == "runtime.NumGoroutine") | v6 => v8
def EH:List (Option wc)->Option (List wc)
 | []=>vz []
 | none::_=>none
 | some v::r=>(EH r).map (v::·)
def Bp(P:we)(l:Nat)(args:Array wc)(w:wd)(K:VK):Prop:=YieldAt Fence.wide 0 P l args w λe w'=>∃v,e=.returned v/\K v w'
def DK(P:we)(f:wc)(args:List wc)(w:wd)(K:VK):Prop:=
 match f with
 | .func (.func f) first captured=>cond (DX P f) (I P f (first.toList++(args++captured.toList)).toArray w K) False
 | .func (.yield l) first _=>cond (Nat.beq first.size 0) (Bp P l args.toArray w K) False
 | _=>False
def HB(P:we)(b:Builtin)(at_:Array TypeId)(ty:TypeId)(vs:List wc)(w:wd)(K:VK):Prop:=
 match b with
 | .len=>match (at_[0]?).bind (Fk P),vs with
  | some _,[x]=>AH x w K
  | _,_=>Am P (Builtin.len_ at_ ty vs.toArray) w K
 | .append=>Am P (Builtin.append_ at_ ty vs.toArray) w K
 | .copy=>Am P (Builtin.copy_ at_ ty vs.toArray) w K
 | .min=>Am P (Builtin.min_ at_ ty vs.toArray) w K
 | .max=>Am P (Builtin.max_ at_ ty vs.toArray) w K
 | .cap=>Am P (Builtin.cap_ at_ ty vs.toArray) w K
 | .delete=>Am P (Builtin.delete_ at_ ty vs.toArray) w K
 | .clear=>Am P (Builtin.clear_ at_ ty vs.toArray) w K
 | _=>False
def Kg(P:we)(o:Oper)(ρ : Operand->Option wc)(w:wd)(K:VK):Prop:=
 match o.op with
 | .move x | .assign x=>match ρ x with | vz v=>K v w | v6=>False
 | .pick c a b=>Ar (ρ c) (ρ a) (ρ b) w K
 | .alloc t=>match KR P t with | vz z=>Aw (.cells z.cells t) w K | v6=>False
 | .box t x=>match ρ x with | vz v=>Aw (.cells v.cells t) w K | v6=>False
 | .load t x=>match ρ x,Ks P t,G9 P t with
  | some p,some v7,some n=>Ak n p w K
  | some p,some v8,_=>Ad p w K
  | _,_,_=>False
 | .store t x y=>match ρ x, ρ y,G9 P t with
  | some p,some v,some n=>Aj n p v w (K undef)
  | _,_,_=>False
 | .nilCheck x=>match ρ x with | vz p=>Ag p w K | v6=>False
 | .binOp op t x y _=>match ρ x, ρ y with
  | some a,some b=>cond (Pz P t && Kc op) (U op a b w K) (AG P op t x y a b w K)
  | _,_=>False
 | .unOp .not _ x=>match ρ x with | vz a=>AE a w K | v6=>False
 | .unOp op _ x=>match ρ x with | vz a=>Am P (Op.unary op a) w K | v6=>False
 | .convert s t x=>match ρ x with
  | some a=>match P.underlying s,P.underlying t with
   | some (.int _),some (.int k)=>Bh k a w K
   | _,_=>Am P (convert s t a) w K
  | none=>False
 | .fieldAddr s x f=>match ρ x,Le P s f with
  | some p,some fl=>match G9 P fl.type with
   | some (_+1)=>Ab fl.offset p w K
   | _=>False
  | _,_=>False
 | .indexAddr t x i=>match ρ x, ρ i,Fk P t with
  | some a,some b,some e=>match G9 P e with
   | some n=>A6 n a b w K
   | none=>False
  | some a,some b,v6=>match IH P t with
   | some (ln,e)=>match G9 P e with
    | some n=>AP ln n a b w K
    | none=>False
   | none=>False
  | _,_,_=>False
 | .extract x i=>match ρ x with | vz a=>Av i a w K | v6=>False
 | .makeFunc fn first captured=>match EH (first.toList.map ρ),EH (captured.toList.map ρ) with
  | some l,some m=>K (.func fn l.toArray m.toArray) w
  | _,_=>False
 | .build t parts=>match EH (parts.toList.map λp => ρ p.2) with
  | some vs=>Am P (Instr.build t ((parts.toList.map (·.1)).zip vs).toArray) w K
  | none=>False
 | .buildSlice t n parts=>match EH (parts.toList.map λp => ρ p.2) with
  | some vs=>Am P (Instr.buildSlice t n ((parts.toList.map (·.1)).zip vs).toArray) w K
  | none=>False
 | .makeSlice t l c=>match ρ l, ρ c with | vz a,vz b=>Am P (Instr.makeSlice t a b) w K | _,_=>False
 | .makeMap t v6=>Am P (Instr.makeMap t v6) w K
 | .makeInterface t x=>match ρ x with | vz a=>Am P (Instr.makeInterface t a) w K | v6=>False
 | .slice t x lo hi v6=>match ρ x,lo.map ρ,hi.map ρ with
  | some _,some v6,_=>False
  | some _,_,some v6=>False
  | some a,l,h=>Am P (Instr.sliceAt t a (l.bind id) (h.bind id) v6) w K
  | none,_,_=>False
 | .slice t x (vz lo) (vz hi) (vz mx)=>match ρ x, ρ lo, ρ hi, ρ mx with
  | some a,some l,some h,some m=>Am P (Instr.sliceAt t a (some l) (some h) (some m)) w K
  | _,_,_,_=>False
 | .field t x f=>match ρ x with | vz a=>Am P (Instr.field t a f) w K | v6=>False
 | .index t x i=>match ρ x, ρ i with | vz a,vz b=>Am P (Instr.index t a b) w K | _,_=>False
 | .lookup t x i ok=>match ρ x, ρ i with | vz a,vz b=>Am P (Instr.lookup t a b ok) w K | _,_=>False
 | .mapUpdate t m k x=>match ρ m, ρ k, ρ x with | vz a,vz b,vz c=>B0 P (Instr.mapUpdate t a b c) w (K undef) | _,_,_=>False
 | .range t x=>match ρ x with | vz a=>Am P (Instr.range t a) w K | v6=>False
 | .next it s=>match ρ it with | vz a=>Am P (Instr.next a s o.type) w K | v6=>False
 | .entry it=>match ρ it with | vz a=>Am P (Instr.entry a) w K | v6=>False
 | .call c=>match EH (c.args.toList.map ρ) with
  | none=>False
  | some vs=>match c.callee with
   | .value f=>match ρ f with | vz fv=>DK P fv vs w K | v6=>False
   | .builtin b=>HB P b c.argTypes o.type vs w K
   | _=>False
 | _=>False
def Eu(ρ : Operand->wc)(o:Oper):Bool:=match o.op with
 | .call { callee := .value f, .. }=>match ρ f with
  | .func (.yield _) _ _=>v7
  | _=>v8
 | _=>v8
def ID(P:we)(o:Oper)(a:Act)(w:wd)(K:VK):Prop:=
 (∃v w',(execOp a.eval o).run P w=.ok (.value v) w'/\K v w')∨
 (∃w',(execOp a.eval o).run P w=.ok .skip w'/\K undef w')∨
 (∃f args,(execOp a.eval o).run P w=.ok (.enter f args) w/\I P f args w K)∨
 (Eu a.eval o=v7/\∃l f tmps aq bd,(execOp a.eval o).run P w=.ok (.round l f tmps aq bd) w/\RoundIn Fence.wide 0 P l f tmps aq bd w λe w'=>∃v,e=.returned v/\K v w')
def OA(o:Oper):Prop:=∀c,o.op ≠ .defer c
def Fc(r:Option Nat):Fence:={ Fence.wide with round:=r }
def ID.wp{P:we}{o:Oper}{a:Act}{w:wd}{K:VK}{Q:Exit->Act->wd->Prop}{K':Act->wd->Prop}(hc:Eu a.eval o=v8)(h:ID P o a w K)(hk:∀v w',K v w'->K' (a.put o.dst v) w'):o.wp P a w K' Q:=by
 unfold Oper.wp;rcases h with⟨v,w',hr,h⟩|⟨w',hr,h⟩|⟨f,args,hr,h⟩|⟨hn,_⟩
 ·rw[hr];exact hk _ _ h
 ·rw[hr];exact hk _ _ h
 ·rw[hr];refine h.mono ?_;rintro e w' ⟨v,rfl,h⟩;exact hk _ _ h
 ·rw[hc]at hn;cases hn
def ID.wpIn{P:we}{r:Option Nat}{o:Oper}{a:Act}{w:wd}{K:VK}{Q:Exit->Act->wd->Prop}{K':Act->wd->Prop}(hd:OA o)(h:ID P o a w K)(hk:∀v w',K v w'->K' (a.put o.dst v) w'):o.wpIn (Fc r) 0 P a w K' Q:=by
 refine⟨λ_ _=>trivial,?_⟩;have hs:o.semAt (Fc r).round a.eval=execOp a.eval o:=by
  cases r with
  | none=>rfl
  | some l=>exact Oper.semAt_some l _ o hd
 rw[hs];rcases h with⟨v,w',hr,h⟩|⟨w',hr,h⟩|⟨f,args,hr,h⟩|⟨_,l,f,tmps,aq,bd,hr,h⟩
 ·rw[hr];exact hk _ _ h
 ·rw[hr];exact hk _ _ h
 ·rw[hr];refine⟨λh=>by simp[Fc,Fence.wide]at h,?_⟩;have h':CallsIn Fence.wide 0 P f args w λe w'=>∃v,e=.returned v/\K v w':=callsIn_wide.2 h;have h'':CallsIn (Fc r) 0 P f args w λe w'=>∃v,e=.returned v/\K v w':=h';refine h''.mono ?_;rintro e w' ⟨v,rfl,h⟩;exact hk _ _ h
 ·rw[hr];refine⟨λh=>by simp[Fc,Fence.wide]at h,?_⟩;have h'':RoundIn (Fc r) 0 P l f tmps aq bd w λe w'=>∃v,e=.returned v/\K v w':=h;refine h''.mono ?_;rintro e w' ⟨v,rfl,h⟩;exact hk _ _ h
theorem Fg{ρ : Operand->Option wc}{f:Operand->wc}(hρ : ∀x v, ρ x=vz v->f x=v):∀(l:List Operand) (vs:List wc),EH (l.map ρ)=vz vs->l.map f=vs
 | [],vs,h=>by simp[EH]at h;simp[h]
 | x::l,vs,h=>by
  simp only[q9]at h;cases hx : ρ x with
  | none=>simp[hx,EH]at h
  | some v=>
   simp only[hx,EH,xZ]at h;obtain⟨r,hr,rfl⟩:=h;simp[hρ x v hx,Fg hρ l r hr]
theorem Gk(P:we)(w:wd)(a:Addr):∀(n i:Nat) (acc:Array wc) (cs:List wc),Fx w a i n=vz cs->
  (loadCellsFrom a i n acc).run P w=.ok (acc++cs.toArray) w
 | 0,i,acc,cs,h=>by simp[Fx]at h;subst h;simp[loadCellsFrom]
 | n+1,i,acc,cs,h=>by
  simp only[Fx]at h;split at h
  ·rename_i v r h1 h2;simp only[zM]at h;subst h;simp only[loadCellsFrom,u1,run_load,h1,zN];rw[Gk P w a n (i+1) _ r h2];simp
  ·cases h
theorem JN(P:we):∀(l:List wc) (i:Nat) (a:Addr) (w:wd) (K:wd->Prop),Fy l i a w K->
  ∃w',(storeCells a l i).run P w=.ok () w'/\K w'
 | [],i,a,w,K,h=>⟨w,by simp[storeCells],h⟩
 | v::l,i,a,w,K,h=>by
  obtain⟨h1,⟨u,h2⟩,h3,h4⟩:=h;obtain⟨w',hr,hk⟩:=JN P l (i+1) a _ K h4;refine⟨w',?_,hk⟩;simp only[storeCells,u1,run_store P w (a.add i) v _ h1,h2,h3];simpa using hr
section
variable{P:we}{w:wd}{t:TypeId}
def D5{n:Nat}(h:G9 P t=vz n):(sizeOf t).run P w=.ok n w:=by simp only[G9,xZ]at h;obtain⟨i,hi,rfl⟩:=h;simp[sizeOf,typeInfo,hi]
def KK{z:wc}(h:KR P t=vz z):(zeroValue t).run P w=.ok z w:=by simp only[KR,Option.bind_eq_some_iff]at h;obtain⟨i,hi,hz⟩:=h;simp[zeroValue,typeInfo,hi,hz]
def FM{b:Bool}(h:Ks P t=vz b):(isAgg t).run P w=.ok b w:=by simp only[Ks,xZ]at h;obtain⟨d,hd,rfl⟩:=h;cases d<;>simp[isAgg,underlying,hd]
def Cz(op:BinOp)(ox oy:Operand)(k k':IntKind)(a b:Int):(eqGuard op t ox oy (.int k a) (.int k' b)).run P w=.ok () w:=by unfold eqGuard;cases op<;>simp
def IA{op:BinOp}{k:IntKind}{a b:Int}{v:wc}(h:Fu op k a b=vz v):(binOp op t (.int k a) (.int k b)).run P w=.ok v w:=by
 cases op<;>simp only[Fu,zM]at h<;>first | cases h | skip
 all_goals (first | subst h | skip)
 all_goals simp[binOp,Op.intArith,Op.intCmp]
end
theorem Gj{ρ : Operand->Option wc}{f:Operand->wc}(hρ : ∀x v, ρ x=vz v->f x=v):∀(l:List (Nat × Operand)) (vs:List wc),EH (l.map λp => ρ p.2)=vz vs->
  l.map (λp=>(p.1,f p.2))=(l.map (·.1)).zip vs
 | [],vs,h=>by simp[EH]at h;subst h;rfl
 | x::l,vs,h=>by
  simp only[q9]at h;cases hx : ρ x.2 with
  | none=>simp[hx,EH]at h
  | some v=>
   simp only[hx,EH,xZ]at h;obtain⟨r,hr,rfl⟩:=h;simp[hρ _ _ hx,Gj hρ l r hr]
def Mf{P:we}{b:Builtin}{at_:Array TypeId}{ty:TypeId}{consts:Array Bool}{vs:List wc}{w:wd}{K:VK}(h:HB P b at_ ty vs w K):
  ∃v w',(builtin b at_ ty consts vs.toArray).run P w=.ok (.value v) w'/\K v w':=by
 cases b<;>simp only[HB]at h<;>try exact h.elim
 case len=>
  split at h
  ·rename_i e x he;obtain⟨g,n,c,rfl,hk⟩:=h;refine⟨_,w,?_,hk⟩;simp only[Option.bind_eq_some_iff]at he;obtain⟨t,h0,he⟩:=he;have hs:P.underlying t=vz (.slice e):=by
    unfold Fk at he;split at he
    ·cases he;assumption
    ·cases he
   simp[builtin,Builtin.len_,h0,underlying,hs,goInt]
  ·obtain⟨v,w',hr,hk⟩:=h;exact⟨v,w',by simp only[builtin,u1,hr];rfl,hk⟩
 all_goals
  obtain⟨v,w',hr,hk⟩:=h;exact⟨v,w',by simp only[builtin,u1,hr];rfl,hk⟩
def I2{P:we}{o:Oper}{ρ : Operand->Option wc}{a:Act}{w:wd}{K:VK}(hρ : ∀x v, ρ x=vz v->a.eval x=v)(h:Kg P o ρ w K):ID P o a w K:=by
 obtain⟨dst,op,type,pos,after,guard⟩:=o;cases op<;>simp only[Kg]at h<;>try exact h.elim
 case move x=>
  split at h
  ·rename_i v hv;exact .inl ⟨v,w,by simp[execOp,hρ x v hv],h⟩
  ·exact h.elim
 case assign x=>
  split at h
  ·rename_i v hv;exact .inl ⟨v,w,by simp[execOp,hρ x v hv],h⟩
  ·exact h.elim
 case pick c x y=>
  obtain⟨t,hc,v,hv,hk⟩:=h;refine .inl ⟨v,w,?_,hk⟩;have hc':=hρ c _ hc;cases t with
  | true=>have:=hρ x _ hv;simp[execOp,hc',asBool,this]
  | false=>have:=hρ y _ hv;simp[execOp,hc',asBool,this]
 case alloc t=>
  split at h
  ·rename_i z hz;exact .inl ⟨_,_,by simp[execOp,Instr.alloc,KK hz,newVar,newRow],h⟩
  ·exact h.elim
 case box t x=>
  split at h
  ·rename_i v hv;exact .inl ⟨_,_,by simp[execOp,Instr.box,hρ x v hv,newVar,newRow],h⟩
  ·exact h.elim
 case build t parts=>
  split at h
  ·rename_i vs hvs;obtain⟨v,w',hr,hk⟩:=h;refine .inl ⟨v,w',?_,hk⟩;have:=Gj hρ _ _ hvs;have hp:(parts.map λ(i,x)=>(i,a.eval x))=((parts.toList.map (·.1)).zip vs).toArray:=by rw[<-this];apply vd ;simp
   simp only[execOp,hp,u1,hr];rfl
  ·exact h.elim
 case buildSlice t n parts=>
  split at h
  ·rename_i vs hvs;obtain⟨v,w',hr,hk⟩:=h;refine .inl ⟨v,w',?_,hk⟩;have:=Gj hρ _ _ hvs;have hp:(parts.map λ(i,x)=>(i,a.eval x))=((parts.toList.map (·.1)).zip vs).toArray:=by rw[<-this];apply vd ;simp
   simp only[execOp,hp,u1,hr];rfl
  ·exact h.elim
 case load t x=>
  split at h
  ·rename_i p n hp hag hn;obtain⟨ad,cs,rfl,hc,hk⟩:=h;refine .inl ⟨_,w,?_,hk⟩;simp[execOp,Instr.loadAt,Instr.sureAddr,hρ x _ hp,loadVar,FM hag,D5 hn,loadCells,Gk P w ad n 0 #[] cs hc]
  ·rename_i p q hp hag;obtain⟨ad,v,rfl,hc,hk⟩:=h;refine .inl ⟨v,w,?_,hk⟩;simp[execOp,Instr.loadAt,Instr.sureAddr,hρ x _ hp,loadVar,FM hag,hc]
  ·exact h.elim
 case store t x y=>
  split at h
  ·rename_i p v n hp hv hn;obtain⟨ad,rfl,hs,hk⟩:=h;obtain⟨w',hr,hk'⟩:=JN P _ _ _ _ _ hk;refine .inr (.inl ⟨w',?_,hk'⟩);simp[execOp,Instr.storeAt,Instr.sureAddr,hρ x _ hp,hρ y _ hv,storeVar,D5 hn,hs,hr]
  ·exact h.elim
 case nilCheck x=>
  split at h
  ·rename_i p hp;obtain⟨hn,hk⟩:=h;refine .inl ⟨p,w,?_,hk⟩;have hx:=hρ x _ hp;cases p<;>simp_all [execOp,KA]
   case pointer ad=>cases ad<;>simp_all
   case func fn _ _=>cases fn<;>simp_all
  ·exact h.elim
 case binOp op t x y yt=>
  split at h
  ·rename_i u v hu hv;have e1:=hρ x _ hu;have e2:=hρ y _ hv;cases hb:(Pz P t && Kc op) with
   | true=>
    rw[hb]at h;obtain⟨k,m,n,r,rfl,rfl,hr,hk⟩:=h;refine .inl ⟨r,w,?_,hk⟩;simp[execOp,e1,e2,Cz,IA hr]
   | false=>
    rw[hb]at h;obtain⟨r,hr,hk⟩:=h;refine .inl ⟨r,w,?_,hk⟩;simp only[execOp,e1,e2];simp only[u1]at hr ⊢;rw[hr];rfl
  ·exact h.elim
 case unOp op t x=>
  cases op with
  | not=>
   simp only at h;split at h
   ·rename_i u hu;obtain⟨b,rfl,hk⟩:=h;exact .inl ⟨_,w,by simp[execOp,hρ x _ hu,Op.unary],hk⟩
   ·exact h.elim
  | _=>
   simp only at h;split at h
   ·rename_i u hu;obtain⟨v,w',hr,hk⟩:=h;exact .inl ⟨v,w',by simp only[execOp,hρ x _ hu,u1,hr];rfl,hk⟩
   ·exact h.elim
 case convert s t x=>
  split at h
  ·rename_i u hu;split at h
   ·rename_i k hs ht;obtain⟨k',n,rfl,hk⟩:=h;refine .inl ⟨_,w,?_,hk⟩;simp[execOp,hρ x _ hu,convert,underlying,hs,ht,Conv.intToInt]
   ·obtain⟨v,w',hr,hk⟩:=h;exact .inl ⟨v,w',by simp only[execOp,hρ x _ hu,u1,hr];rfl,hk⟩
  ·exact h.elim
 case makeInterface t x=>
  split at h
  ·rename_i u hu;obtain⟨v,w',hr,hk⟩:=h;exact .inl ⟨v,w',by simp only[execOp,hρ x _ hu,u1,hr];rfl,hk⟩
  ·exact h.elim
 case makeFunc fn first captured=>
  split at h
  ·rename_i l m hl hm;refine .inl ⟨_,w,?_,h⟩;have h1:=Fg hρ _ _ hl;have h2:=Fg hρ _ _ hm;have h1':first.map a.eval=l.toArray:=by rw[<-h1];apply vd;simp
   have h2':captured.map a.eval=m.toArray:=by rw[<-h2];apply vd;simp
   simp[execOp,Instr.makeFunc,h1',h2']
  ·exact h.elim
 case makeMap t r=>
  cases r with
  | none=>
   obtain⟨v,w',hr,hk⟩:=h;exact .inl ⟨v,w',by simp only[execOp,Option.map_none,u1,hr];rfl,hk⟩
  | some _=>exact h.elim
 case makeSlice t l c=>
  split at h
  ·rename_i u u' hu hu';obtain⟨v,w',hr,hk⟩:=h;exact .inl ⟨v,w',by simp only[execOp,hρ l _ hu,hρ c _ hu',u1,hr];rfl,hk⟩
  ·exact h.elim
 case slice t x lo hi mx=>
  cases mx with
  | some mx=>
   cases lo with
   | none=>exact h.elim
   | some lo=>
    cases hi with
    | none=>exact h.elim
    | some hi=>
     simp only at h;split at h
     ·rename_i u l r m hu h1 h2 h3;obtain⟨v,w',hr,hk⟩:=h;exact .inl ⟨v,w',by simp only[execOp,hρ x _ hu,j8,hρ lo _ h1,hρ hi _ h2,hρ mx _ h3,u1,hr];rfl,hk⟩
     ·exact h.elim
  | none=>
   simp only at h;have hlo:∀l,lo.map ρ = l->l≠vz v6->lo.map a.eval=l.bind id:=by
    intro l hl hne;cases lo with
    | none=>simp at hl;subst hl;rfl
    | some q=>
     simp at hl;subst hl;cases hq : ρ q with
     | none=>simp[hq]at hne
     | some z=>simp[hρ q z hq]
   have hhi:∀l,hi.map ρ = l->l≠vz v6->hi.map a.eval=l.bind id:=by
    intro l hl hne;cases hi with
    | none=>simp at hl;subst hl;rfl
    | some q=>
     simp at hl;subst hl;cases hq : ρ q with
     | none=>simp[hq]at hne
     | some z=>simp[hρ q z hq]
   split at h
   ·exact h.elim
   ·exact h.elim
   ·rename_i u l r hu h1 h2;obtain⟨v,w',hr,hk⟩:=h;refine .inl ⟨v,w',?_,hk⟩;have e1:=hlo _ rfl (by assumption);have e2:=hhi _ rfl (by assumption);simp only[execOp,hρ x _ hu,e1,e2,Option.map_none,u1,hr];rfl
   ·exact h.elim
 case fieldAddr s x f=>
  split at h
  ·rename_i p fl hp hf;split at h
   ·rename_i n hn;obtain⟨ad,rfl,hk⟩:=h;refine .inl ⟨_,w,?_,hk⟩;have hs:∃fs,P.underlying s=vz (.struct fs)/\fs[f]?=vz fl:=by
     unfold Le at hf;split at hf
     ·exact⟨_, ‹_›,hf⟩
     ·cases hf
    obtain⟨fs,hs,hfs⟩:=hs;simp[execOp,Instr.fieldAt,underlying,hs,hfs,Instr.sureAddr,hρ x _ hp,fieldPlace,D5 hn]
   ·exact h.elim
  ·exact h.elim
 case field t x f=>
  split at h
  ·rename_i u hu;obtain⟨v,w',hr,hk⟩:=h;exact .inl ⟨v,w',by simp only[execOp,hρ x _ hu,u1,hr];rfl,hk⟩
  ·exact h.elim
 case indexAddr t x i=>
  split at h
  ·rename_i u u' e hu hu' he;split at h
   ·rename_i n hn;obtain⟨g,len,cap,k,j,rfl,rfl,h0,h1,hk⟩:=h;refine .inl ⟨_,w,?_,hk⟩;have hs:P.underlying t=vz (.slice e):=by
     unfold Fk at he;split at he
     ·cases he;assumption
     ·cases he
    simp[execOp,Instr.indexAt,asIntOf,underlying,hs,hρ x _ hu,hρ i _ hu',h0,h1,D5 hn]
   ·exact h.elim
  ·rename_i u u' hu hu' he;split at h
   ·rename_i ln e ha;split at h
    ·rename_i n hn;obtain⟨g,k,j,rfl,rfl,h0,h1,hk⟩:=h;refine .inl ⟨_,w,?_,hk⟩;have hs:P.underlying t=vz (.array ln e):=by
      unfold IH at ha;split at ha
      ·cases ha;assumption
      ·cases ha
     simp[execOp,Instr.indexAt,asIntOf,Instr.sureAddr,underlying,hs,hρ x _ hu,hρ i _ hu',h0,h1,D5 hn]
    ·exact h.elim
   ·exact h.elim
  ·exact h.elim
 case index t x i=>
  split at h
  ·rename_i u u' hu hu';obtain⟨v,w',hr,hk⟩:=h;exact .inl ⟨v,w',by simp only[execOp,hρ x _ hu,hρ i _ hu',u1,hr];rfl,hk⟩
  ·exact h.elim
 case lookup t x i ok=>
  split at h
  ·rename_i u u' hu hu';obtain⟨v,w',hr,hk⟩:=h;exact .inl ⟨v,w',by simp only[execOp,hρ x _ hu,hρ i _ hu',u1,hr];rfl,hk⟩
  ·exact h.elim
 case mapUpdate t m k x=>
  split at h
  ·rename_i u u' u'' hu hu' hu'';obtain⟨w',hr,hk⟩:=h;exact .inr (.inl ⟨w',by simp only[execOp,hρ m _ hu,hρ k _ hu',hρ x _ hu'',u1,hr];rfl,hk⟩)
  ·exact h.elim
 case range t x=>
  split at h
  ·rename_i u hu;obtain⟨v,w',hr,hk⟩:=h;exact .inl ⟨v,w',by simp only[execOp,hρ x _ hu,u1,hr];rfl,hk⟩
  ·exact h.elim
 case next it s=>
  split at h
  ·rename_i u hu;obtain⟨v,w',hr,hk⟩:=h;exact .inl ⟨v,w',by simp only[execOp,hρ it _ hu,u1,hr];rfl,hk⟩
  ·exact h.elim
 case entry it=>
  split at h
  ·rename_i u hu;obtain⟨v,w',hr,hk⟩:=h;exact .inl ⟨v,w',by simp only[execOp,hρ it _ hu,u1,hr];rfl,hk⟩
  ·exact h.elim
 case extract x i=>
  split at h
  ·rename_i u hu;obtain⟨vs,v,rfl,hv,hk⟩:=h;exact .inl ⟨v,w,by simp[execOp,Instr.extract,hρ x _ hu,hv],hk⟩
  ·exact h.elim
 case call c=>
  obtain⟨callee,args,argTypes⟩:=c;simp only at h;cases hvs:EH (args.toList.map ρ) with
  | none=>rw[hvs]at h;exact h.elim
  | some vs=>
   rw[hvs]at h;have hargs:=Fg hρ _ _ hvs;have hargs':args.map a.eval=vs.toArray:=by rw[<-hargs];apply vd;simp
   cases callee with
   | value f=>
    simp only at h;split at h
    ·rename_i fv hf;unfold DK at h;split at h
     ·rename_i f' first captured
      cases hb:DX P f' with
      | false=>rw[hb]at h;exact h.elim
      | true=>
       rw[hb]at h;refine .inr (.inr (.inl ⟨f',_,?_,h⟩));unfold DX at hb;split at hb
       ·rename_i fn hfn;simp only[zS,zD]at hb;obtain⟨hb1,hb2⟩:=hb;have hb3:fn.body.isNone=v8:=by cases hq:fn.body<;>simp_all
        have ha:(first++vs.toArray)++captured=(first.toList++(vs++captured.toList)).toArray:=by apply vd;simp
        simp only[execOp,resolve,Deferred.ofValue,hρ f _ hf,hargs',invoke,callFunc,u1,u2,zN,run_program,hfn,hb2,hb3,yT,vg,ha]
       ·cases hb
     ·rename_i l first captured
      cases hb:Nat.beq first.size 0 with
      | false=>rw[hb]at h;exact h.elim
      | true=>
      rw[hb]at h;have hfe:first = #[]:=Array.eq_empty_of_size_eq_zero (yI hb)
      subst hfe;obtain⟨fn,tmps,aq,bd,hy,hr⟩:=h;have hcalm:Eu a.eval { dst:=dst,op := .call { callee := .value f,args:=args,argTypes:=argTypes },type:=type,pos:=pos,after:=after,guard:=guard }=v7:=by simp only[Eu,hρ f _ hf]
      refine .inr (.inr (.inr ⟨hcalm,l,fn,tmps,aq,bd,?_,hr⟩));simp only[execOp,resolve,Deferred.ofValue,hρ f _ hf,hargs',invoke,u1,u2,zN,Array.empty_append];exact hy
     ·exact h.elim
    ·exact h.elim
   | builtin b=>
    obtain⟨v,w',hr,hk⟩:=Mf (consts:=args.map fun|.const _=>v7|_=>v8) h;refine .inl ⟨v,w',?_,hk⟩;simp only[execOp,resolve,hargs',invoke,u1,u2,zN];exact hr
   | invoke r m=>exact h.elim
def Jl{P:we}{o:Oper}{ρ : Operand->Option wc}{w:wd}{K:VK}(h:Kg P o ρ w K):OA o:=by obtain⟨dst,op,type,pos,after,guard⟩:=o;intro c hc;simp only at hc;subst hc;exact h
abbrev EK:=C1->wd->Prop
def putE(dst:Option Tmp)(v:wc)(env:C1):C1:=match dst with | vz d=>(d,v)::env | v6=>env
def Bv(want:Bool)(v:wc)(A B:Prop):Prop:=(v=.bool want->A)/\(v ≠ .bool want->B)
def Aa(want:Bool)(v:wc)(F:VK->Prop)(w:wd)(K:VK):Prop:=Bv want v (F K) (K undef w)
def J3(ops:Array Oper)(o:Oper)(env:C1)(F:VK->Prop)(w:wd)(K:VK):Prop:=
 match o.guard with
 | none=>F K
 | some (j,want)=>match (ops[j]?).bind (·.dst) with
  | some t=>match GC env t with
   | some v=>Aa want v F w K
   | none=>False
  | none=>False
def HW(P:we)(ops:Array Oper)(o:Oper)(env:C1)(w:wd)(K:EK):Prop:=
 J3 ops o env (λK=>Kg P o (ev env) w K) w (λv w'=>K (putE o.dst v env) w')
def N2(P:we)(ops:Array Oper):List Oper->C1->wd->EK->Prop
 | [],env,w,K=>K env w
 | o::l,env,w,K=>HW P ops o env w λenv' w'=>N2 P ops l env' w' K
def Js(n:Nat)(ops:List Oper):Bool:=ops.all λo=>match o.dst with | vz d=>Nat.blt d n && !(Nat.beq d Ea) | v6=>v7
def E3(n:Nat)(Q:Exit->C1->wd->Prop):Exit->Act->wd->Prop
 | .panic _,_,_=>False
 | .outgrown,_,_=>False
 | e,a,w=>∃env,De n env a/\Q e env w
def Ky(n:Nat)(o:Oper):Prop:=∀d,o.dst=vz d->d<n/\d≠Ea
def De.putE{n:Nat}{env:C1}{a:Act}(h:De n env a){o:Oper}(hd:Ky n o)(v:wc):De n (putE o.dst v env) (a.put o.dst v):=by
 cases hq:o.dst with
 | none=>exact h
 | some d=>exact h.put v (hd d hq).1 (hd d hq).2
def De.yielded{n:Nat}{env:C1}{a:Act}(h:De n env a){ops:Array Oper}{j t:Nat}{v:wc}(hj:(ops[j]?).bind (·.dst)=vz t)(hv:GC env t=vz v)(want:Bool):
  (Go.yielded ops a.tmps j == vz want)=v7↔v=.bool want:=by unfold Go.yielded;rw[hj];simp only[Option.bind_some,h.has t v hv];cases v<;>simp
def HC{n:Nat}{env:C1}{a:Act}(h:De n env a){ops:Array Oper}{o:Oper}{F:VK->Prop}{w:wd}{K:VK}(hv:J3 ops o env F w K):
  (Region.wanted o (yielded ops a.tmps)=v7/\F K)∨(Region.wanted o (yielded ops a.tmps)=v8/\K undef w):=by
 unfold J3 at hv;cases hg:o.guard with
 | none=>rw[hg]at hv;exact .inl ⟨by simp[Region.wanted,hg],hv⟩
 | some g=>
  obtain⟨j,want⟩:=g;rw[hg]at hv;simp only at hv;split at hv
  ·rename_i t ht;split at hv
   ·rename_i v hl;have hy:=h.yielded ht hl want;by_cases hb:v=.bool want
    ·exact .inl ⟨by simp[Region.wanted,hg];simpa using hy.2 hb,hv.1 hb⟩
    ·refine .inr ⟨?_,hv.2 hb⟩;have:¬(Go.yielded ops a.tmps j == vz want)=v7:=λe=>hb (hy.1 e);simpa[Region.wanted,hg] using this
   ·exact hv.elim
  ·exact hv.elim
theorem Hw{P:we}{r:Option Nat}{n:Nat}{ops:Array Oper}{Q:Exit->C1->wd->Prop}:∀(l:List Oper) (env:C1) (a:Act) (w:wd),(∀o∈l,Ky n o)->De n env a->
  N2 P ops l env w (λenv' w'=>Q .normal env' w')->wpListIn (Fc r) 0 P ops (E3 n Q) l a w
 | [],env,a,w,_,he,h=>⟨env,he,h⟩
 | o::l,env,a,w,hd,he,h=>by
  unfold wpListIn;have hd0:=hd o (by simp);rcases HC he h with⟨hw,h1⟩|⟨hw,h1⟩
  ·rw[vn hw];refine ID.wpIn (Jl h1) (I2 (λx v hv=>he.eval hv) h1) ?_;intro v w' hk;exact Hw l _ _ _ (λo' ho'=>hd o' (by simp[ho'])) (he.putE hd0 v) hk
  ·rw[vm (by simp[hw])];exact⟨λ_ _=>trivial,Hw l _ _ _ (λo' ho'=>hd o' (by simp[ho'])) (he.putE hd0 undef) h1⟩
def Ic{n:Nat}{l:List Oper}(h:Js n l=v7):∀o∈l,Ky n o:=by intro o ho d hd;unfold Js at h;rw[zT]at h;have:=h o ho;rw[hd]at this;simp only[zS,zD]at this;exact⟨by simpa[Nat.blt_eq] using this.1,xY this.2⟩
inductive Plan where
 | fin
 | take (i:Nat) (p:Plan)
 | go (i:Nat) (p rest:Plan)
 deriving Inhabited
def Dc(ops:Array Oper):Plan->Option (List Nat)->Array Bool->Bool
 | .fin,v6,listed=>(Region.ready .any ops listed).isEmpty
 | .fin,vz rs,_=>rs.isEmpty
 | .take i p,v6,listed=>(Region.ready .any ops listed).contains i && Region.free .any ops listed i && Dc ops p v6 (listed.setIfInBounds i v7)
 | .take _ _,vz _,_=>v8
 | .go i p q,v6,listed=>match Region.ready .any ops listed with
  | j::rs=>Nat.beq j i && Dc ops p v6 (listed.setIfInBounds i v7) && Dc ops q (vz rs) listed
  | []=>v8
 | .go i p q,vz (j::rs),listed=>Nat.beq j i && Dc ops p v6 (listed.setIfInBounds i v7) && Dc ops q (vz rs) listed
 | .go _ _ _,vz [],_=>v8
def HD(P:we)(o:Oper):Bool:=
 match o.op with
 | .move _ | .assign _ | .pick .. | .nilCheck _ | .fieldAddr .. | .indexAddr .. | .extract .. | .makeFunc .. => v7
 | .binOp op t _ _ _=>Pz P t && Kc op
 | .unOp .not _ _=>v7
 | .convert s t _=>match P.underlying s,P.underlying t with | vz (.int _),vz (.int _)=>v7 | _,_=>v8
 | .call { callee := .builtin .len,args,argTypes }=>((argTypes[0]?).bind (Fk P)).isSome && Nat.beq args.size 1
 | _=>v8
def Al(S:wd->Prop)(p:wc)(w:wd)(K:VK):Prop:=∃a v,p=.pointer (vz a)/\(∀w',S w'->w'.cell? a=vz v)/\K v w
def AN(S:wd->Prop)(n:Nat)(p:wc)(w:wd)(K:VK):Prop:=∃a cs,p=.pointer (vz a)/\(∀w',S w'->Fx w' a 0 n=vz cs)/\K (.agg cs.toArray) w
def N3(P:we)(S:wd->Prop)(o:Oper)(ρ : Operand->Option wc)(w:wd)(K:VK):Prop:=
 cond (HD P o) (Kg P o ρ w K) (match o.op with
  | .load t x=>match ρ x,Ks P t,G9 P t with
   | some p,some v7,some n=>AN S n p w K
   | some p,some v8,_=>Al S p w K
   | _,_,_=>False
  | .binOp op t x y _=>match ρ x, ρ y with
   | some a,some b=>∃v,(∀w',S w'->(do eqGuard op t x y a b;binOp op t a b:Sem wc).run P w'=.ok v w')/\K v w
   | _,_=>False
  | .build t parts=>match EH (parts.toList.map λp => ρ p.2) with
   | some vs=>∃v,(∀w',S w'->(Instr.build t ((parts.toList.map (·.1)).zip vs).toArray).run P w'=.ok v w')/\K v w
   | none=>False
  | .slice t x lo hi v6=>match ρ x,lo.map ρ,hi.map ρ with
   | some _,some v6,_=>False
   | some _,_,some v6=>False
   | some a,l,h=>∃v,(∀w',S w'->(Instr.sliceAt t a (l.bind id) (h.bind id) v6).run P w'=.ok v w')/\K v w
   | none,_,_=>False
  | .call { callee := .builtin b,args,argTypes }=>match EH (args.toList.map ρ) with
   | some vs=>∃v,(∀w',S w'->(builtin b argTypes o.type (args.map fun | .const _=>v7 | _=>v8) vs.toArray).run P w'=.ok (.value v) w')/\K v w
   | none=>False
  | _=>False)
def B6(v:wc)(X:Prop):Prop:=(∀l a b,v ≠ .func (.yield l) a b)/\X
def G4(o:Oper)(env:C1)(X:Prop):Prop:=match o.op with
 | .call { callee := .value (.func _), .. }=>X
 | .call { callee := .value f, .. }=>match ev env f with
  | some v=>B6 v X
  | none=>False
 | _=>X
def Dd(P:we)(ops:Array Oper)(S:wd->Prop)(held:Bool)(K:EK):Plan->Bool->C1->wd->Prop
 | .fin,v8,env,w=>K env w
 | .fin,v7,_,_=>True
 | .take i p,_,env,w=>match ops[i]? with
  | none=>False
  | some o=>J3 ops o env (λK'=>N3 P S o (ev env) w K') w (λv w'=>Dd P ops S held K p v8 (putE o.dst v env) w')
 | .go i p q,_,env,w=>match ops[i]? with
  | none=>False
  | some o=>(cond held (G4 o env (HW P ops o env w λenv' w'=>S w'/\Dd P ops S held K p v8 env' w')) (HW P ops o env w λenv' w'=>S w'/\Dd P ops S held K p v8 env' w'))/\Dd P ops S held K q v7 env w
section
variable{P:we}{S:wd->Prop}{ρ : Operand->Option wc}{a:Act}{w:wd}{K:VK}
def HV{t e:TypeId}(he:Fk P t=vz e):P.underlying t=vz (.slice e):=by
 unfold Fk at he;split at he
 ·cases he;assumption
 ·cases he
def KP{o:Oper}(hρ : ∀x v, ρ x=vz v->a.eval x=v)(hwl:HD P o=v7)(h:Kg P o ρ w K):
  ∃v,(∀w',(execOp a.eval o).run P w'=.ok (.value v) w')/\K v w:=by
 obtain⟨dst,op,type,pos,after,guard⟩:=o;cases op<;>simp only[HD,yT]at hwl<;>simp only[Kg]at h
 case move x=>
  split at h
  ·rename_i v hv;exact⟨v,λw'=>by simp[execOp,hρ x v hv],h⟩
  ·exact h.elim
 case assign x=>
  split at h
  ·rename_i v hv;exact⟨v,λw'=>by simp[execOp,hρ x v hv],h⟩
  ·exact h.elim
 case pick c x y=>
  obtain⟨t,hc,v,hv,hk⟩:=h;refine⟨v,λw'=>?_,hk⟩;have hc':=hρ c _ hc;cases t with
  | true=>have:=hρ x _ hv;simp[execOp,hc',asBool,this]
  | false=>have:=hρ y _ hv;simp[execOp,hc',asBool,this]
 case nilCheck x=>
  split at h
  ·rename_i p hp;obtain⟨hn,hk⟩:=h;refine⟨p,λw'=>?_,hk⟩;have hx:=hρ x _ hp;cases p<;>simp_all [execOp,KA]
   case pointer ad=>cases ad<;>simp_all
   case func fn _ _=>cases fn<;>simp_all
  ·exact h.elim
 case binOp op t x y yt=>
  split at h
  ·rename_i u v hu hv;have e1:=hρ x _ hu;have e2:=hρ y _ hv;rw[hwl]at h;obtain⟨k,m,n,r,rfl,rfl,hr,hk⟩:=h;refine⟨r,λw'=>?_,hk⟩;simp[execOp,e1,e2,Cz,IA hr]
  ·exact h.elim
 case unOp op t x=>
  cases op with
  | not=>
   simp only at h;split at h
   ·rename_i u hu;obtain⟨b,rfl,hk⟩:=h;exact⟨_,λw'=>by simp[execOp,hρ x _ hu,Op.unary],hk⟩
   ·exact h.elim
  | _=>simp at hwl
 case convert s t x=>
  split at h
  ·rename_i u hu;split at h
   ·rename_i k hs ht;obtain⟨k',n,rfl,hk⟩:=h;refine⟨_,λw'=>?_,hk⟩;simp[execOp,hρ x _ hu,convert,underlying,hs,ht,Conv.intToInt]
   ·rename_i hno;split at hwl
    ·rename_i k1 k2 e1 e2;exact (hno _ _ e1 e2).elim
    ·cases hwl
  ·exact h.elim
 case makeFunc fn first captured=>
  split at h
  ·rename_i l m hl hm;refine⟨_,λw'=>?_,h⟩;have h1:=Fg hρ _ _ hl;have h2:=Fg hρ _ _ hm;have h1':first.map a.eval=l.toArray:=by rw[<-h1];apply vd;simp
   have h2':captured.map a.eval=m.toArray:=by rw[<-h2];apply vd;simp
   simp[execOp,Instr.makeFunc,h1',h2']
  ·exact h.elim
 case fieldAddr s x f=>
  split at h
  ·rename_i p fl hp hf;split at h
   ·rename_i n hn;obtain⟨ad,rfl,hk⟩:=h;refine⟨_,λw'=>?_,hk⟩;have hs:∃fs,P.underlying s=vz (.struct fs)/\fs[f]?=vz fl:=by
     unfold Le at hf;split at hf
     ·exact⟨_, ‹_›,hf⟩
     ·cases hf
    obtain⟨fs,hs,hfs⟩:=hs;simp[execOp,Instr.fieldAt,underlying,hs,hfs,Instr.sureAddr,hρ x _ hp,fieldPlace,D5 hn]
   ·exact h.elim
  ·exact h.elim
 case indexAddr t x i=>
  split at h
  ·rename_i u u' e hu hu' he;split at h
   ·rename_i n hn;obtain⟨g,len,cap,k,j,rfl,rfl,h0,h1,hk⟩:=h;refine⟨_,λw'=>?_,hk⟩;have hs:=HV he;simp[execOp,Instr.indexAt,asIntOf,underlying,hs,hρ x _ hu,hρ i _ hu',h0,h1,D5 hn]
   ·exact h.elim
  ·rename_i u u' hu hu' he;split at h
   ·rename_i ln e ha;split at h
    ·rename_i n hn;obtain⟨g,k,j,rfl,rfl,h0,h1,hk⟩:=h;refine⟨_,λw'=>?_,hk⟩;have hs:P.underlying t=vz (.array ln e):=by
      unfold IH at ha;split at ha
      ·cases ha;assumption
      ·cases ha
     simp[execOp,Instr.indexAt,asIntOf,Instr.sureAddr,underlying,hs,hρ x _ hu,hρ i _ hu',h0,h1,D5 hn]
    ·exact h.elim
   ·exact h.elim
  ·exact h.elim
 case extract x i=>
  split at h
  ·rename_i u hu;obtain⟨vs,v,rfl,hv,hk⟩:=h;exact⟨v,λw'=>by simp[execOp,Instr.extract,hρ x _ hu,hv],hk⟩
  ·exact h.elim
 case call c=>
  obtain⟨callee,args,argTypes⟩:=c;cases callee with
  | value f=>simp at hwl
  | invoke r m=>simp at hwl
  | builtin b=>
   cases b<;>simp only[yT]at hwl
   case len=>
    simp only[zS]at hwl;obtain⟨h1,h2⟩:=hwl;cases hvs:EH (args.toList.map ρ) with
    | none=>simp only[hvs]at h
    | some vs=>
     have hargs:=Fg hρ _ _ hvs;have hargs':args.map a.eval=vs.toArray:=by rw[<-hargs];apply vd;simp
     obtain⟨e,he⟩:=Option.isSome_iff_exists.1 h1;have hl:args.size=1:=yI h2;obtain⟨x,rfl⟩:∃x,vs=[x]:=by
      have hv:vs.length=1:=by rw[<-hargs];simpa using hl
      match vs,hv with
      | [x],_=>exact⟨x,rfl⟩
     simp only[hvs,HB,he]at h;obtain⟨g,n,c,rfl,hk⟩:=h;refine⟨_,λw'=>?_,hk⟩;simp only[Option.bind_eq_some_iff]at he;obtain⟨t,h0,he⟩:=he;have hs:=HV he;simp only[execOp,resolve,hargs',invoke,u1,u2,zN];simp[builtin,Builtin.len_,h0,underlying,hs,goInt]
def N4{o:Oper}(hρ : ∀x v, ρ x=vz v->a.eval x=v)(h:N3 P S o ρ w K):∃v,(∀w',S w'->(execOp a.eval o).run P w'=.ok (.value v) w')/\K v w:=by
 unfold N3 at h;cases hwl:HD P o with
 | true=>
  rw[hwl]at h;simp only[vf]at h;obtain⟨v,hv,hk⟩:=KP hρ hwl h;exact⟨v,λw' _=>hv w',hk⟩
 | false=>
  rw[hwl]at h;simp only[cond_false]at h;obtain⟨dst,op,type,pos,after,guard⟩:=o;cases op<;>simp only at h<;>try exact h.elim
  case load t x=>
   split at h
   ·rename_i p n hp hag hn;obtain⟨ad,cs,rfl,hc,hk⟩:=h;refine⟨_,λw' hS=>?_,hk⟩;simp[execOp,Instr.loadAt,Instr.sureAddr,hρ x _ hp,loadVar,FM hag,D5 hn,loadCells,Gk P w' ad n 0 #[] cs (hc w' hS)]
   ·rename_i p q hp hag;obtain⟨ad,v,rfl,hc,hk⟩:=h;refine⟨v,λw' hS=>?_,hk⟩;simp[execOp,Instr.loadAt,Instr.sureAddr,hρ x _ hp,loadVar,FM hag,hc w' hS]
   ·exact h.elim
  case binOp op t x y yt=>
   split at h
   ·rename_i u v hu hv;have e1:=hρ x _ hu;have e2:=hρ y _ hv;obtain⟨r,hr,hk⟩:=h;refine⟨r,λw' hS=>?_,hk⟩;have hr':=hr w' hS;simp only[execOp,e1,e2];simp only[u1]at hr' ⊢;rw[hr'];rfl
   ·exact h.elim
  case build t parts=>
   split at h
   ·rename_i vs hvs;obtain⟨v,hr,hk⟩:=h;refine⟨v,λw' hS=>?_,hk⟩;have:=Gj hρ _ _ hvs;have hp:(parts.map λ(i,x)=>(i,a.eval x))=((parts.toList.map (·.1)).zip vs).toArray:=by rw[<-this];apply vd ;simp
    simp only[execOp,hp,u1,hr w' hS];rfl
   ·exact h.elim
  case slice t x lo hi mx=>
   cases mx with
   | some _=>exact h.elim
   | none=>
    simp only at h;have hlo:∀l,lo.map ρ = l->l≠vz v6->lo.map a.eval=l.bind id:=by
     intro l hl hne;cases lo with
     | none=>simp at hl;subst hl;rfl
     | some q=>
      simp at hl;subst hl;cases hq : ρ q with
      | none=>simp[hq]at hne
      | some z=>simp[hρ q z hq]
    have hhi:∀l,hi.map ρ = l->l≠vz v6->hi.map a.eval=l.bind id:=by
     intro l hl hne;cases hi with
     | none=>simp at hl;subst hl;rfl
     | some q=>
      simp at hl;subst hl;cases hq : ρ q with
      | none=>simp[hq]at hne
      | some z=>simp[hρ q z hq]
    split at h
    ·exact h.elim
    ·exact h.elim
    ·rename_i u l r hu h1 h2;obtain⟨v,hr,hk⟩:=h;refine⟨v,λw' hS=>?_,hk⟩;have e1:=hlo _ rfl (by assumption);have e2:=hhi _ rfl (by assumption);simp only[execOp,hρ x _ hu,e1,e2,Option.map_none,u1,hr w' hS];rfl
    ·exact h.elim
  case call c=>
   obtain⟨callee,args,argTypes⟩:=c;cases callee with
   | value f=>exact h.elim
   | invoke r m=>exact h.elim
   | builtin b=>
    simp only at h;cases hvs:EH (args.toList.map ρ) with
    | none=>rw[hvs]at h;exact h.elim
    | some vs=>
     rw[hvs]at h;obtain⟨v,hr,hk⟩:=h;have hargs:=Fg hρ _ _ hvs;have hargs':args.map a.eval=vs.toArray:=by rw[<-hargs];apply vd;simp
     refine⟨v,λw' hS=>?_,hk⟩;simp only[execOp,resolve,hargs',invoke,u1,u2,zN];exact hr w' hS
def HS{o:Oper}{env:C1}{n:Nat}{a:Act}{X:Prop}(he:De n env a)(h:G4 o env X):Eu a.eval o=v8/\X:=by
 obtain⟨dst,op,type,pos,after,guard⟩:=o;cases op with
 | call c=>
  obtain⟨callee,args,argTypes⟩:=c;cases callee with
  | value f=>
   cases f with
   | func f'=>exact⟨by simp[Eu,Act.eval],h⟩
   | tmp t=>
    simp only[G4]at h;split at h
    ·rename_i v hv;have e:=he.eval hv;refine⟨?_,h.2⟩;simp only[Eu,e];split
     ·rename_i l a b;exact absurd rfl (h.1 l a b)
     ·rfl
    ·exact h.elim
   | const c=>
    simp only[G4]at h;split at h
    ·rename_i v hv;have e:=he.eval hv;refine⟨?_,h.2⟩;simp only[Eu,e];split
     ·rename_i l a b;exact absurd rfl (h.1 l a b)
     ·rfl
    ·exact h.elim
   | global g=>
    simp only[G4]at h;split at h
    ·rename_i v hv;have e:=he.eval hv;refine⟨?_,h.2⟩;simp only[Eu,e];split
     ·rename_i l a b;exact absurd rfl (h.1 l a b)
     ·rfl
    ·exact h.elim
  | _=>exact⟨rfl,h⟩
 | _=>exact⟨rfl,h⟩
def RF{n:Nat}{ops:Array Oper}{i:Nat}{o:Oper}{env:C1}{K:EK}{K':Act->wd->Prop}{Q:Exit->Act->wd->Prop}(hi:ops[i]?=vz o)(hc:Eu a.eval o=v8)(hd:Ky n o)(he:De n env a)(h:HW P ops o env w K)(hk:∀env' a' w',De n env' a'->K env' w'->K' a' w'):wpOp P ops Q i K' a w:=by
 unfold wpOp;simp only[hi];rcases HC he h with⟨hw,h1⟩|⟨hw,h1⟩
 ·rw[vn hw];exact .inl (ID.wp hc (I2 (λx v hv=>he.eval hv) h1) λv w' hkv=>hk _ _ _ (he.putE hd v) hkv)
 ·rw[vm (by simp[hw])];exact hk _ _ _ (he.putE hd undef) h1
end
def EZ:Plan->Nat
 | .fin=>0
 | .take _ p=>EZ p+1
 | .go _ p q=>max (EZ p+1) (EZ q)
def P9{P:we}{n:Nat}{ops:Array Oper}{S:wd->Prop}{Q:Exit->C1->wd->Prop}(hs:Region.noSelect ops=v7)(hd:∀o∈ops.toList,Ky n o)(p:Plan):
  (∀(fuel:Nat) (listed:Array Bool) (env:C1) (a:Act) (w:wd),EZ p<=fuel->Dc ops p v6 listed=v7->De n env a->S w->
   Dd P ops S v7 (λe w=>Q .normal e w) p v8 env w->wpAnyH P .any ops (E3 n Q) S fuel listed a w)/\
  (∀(fuel:Nat) (rs:List Nat) (listed:Array Bool) (env:C1) (a:Act) (w:wd),EZ p<=fuel+1->Dc ops p (vz rs) listed=v7->De n env a->S w->
   Dd P ops S v7 (λe w=>Q .normal e w) p v7 env w->∀i∈rs,wpOp P ops (E3 n Q) i (λa' w'=>S w'/\wpAnyH P .any ops (E3 n Q) S fuel (listed.setIfInBounds i v7) a' w') a w):=by
 have hdi:∀(i:Nat) (o:Oper),ops[i]?=vz o->Ky n o:=λi o ho=>hd o (by simpa using Array.mem_of_getElem? ho);induction p with
 | fin=>
  refine⟨?_,?_⟩
  ·intro fuel listed env a w _ hok he _ h;exact wpAnyH_done (by simpa[Dc] using hok) ⟨env,he,h⟩ fuel
  ·intro fuel rs listed env a w _ hok _ _ _ i hi;simp only[Dc,List.isEmpty_iff]at hok;subst hok;cases hi
 | take i p ih=>
  refine⟨?_,?_⟩
  ·intro fuel listed env a w hf hok he hS h;obtain⟨fuel,rfl⟩:∃m,fuel=m+1:=⟨fuel-1,by simp only[EZ]at hf;omega⟩;simp only[Dc,zS]at hok;obtain⟨⟨h1,h2⟩,h3⟩:=hok;simp only[Dd]at h;split at h
   ·exact h.elim
   ·rename_i o ho;rcases HC he h with⟨hw,hv⟩|⟨hw,hv⟩
    ·obtain⟨v,hrun,hk⟩:=N4 (λx v hv=>he.eval hv) hv;exact wpAnyH_take ho hs h2 h1 (λc a w h=>h) (.inl ⟨hw,hrun⟩) hS (ih.1 fuel _ _ _ _ (by simp only[EZ]at hf;omega) h3 (he.putE (hdi i o ho) v) hS hk)
    ·exact wpAnyH_take ho hs h2 h1 (λc a w h=>h) (.inr ⟨hw,rfl⟩) hS (ih.1 fuel _ _ _ _ (by simp only[EZ]at hf;omega) h3 (he.putE (hdi i o ho) undef) hS hv)
  ·intro fuel rs listed env a w _ hok;simp[Dc]at hok
 | go i p q ih1 ih2=>
  have one:∀(fuel:Nat) (listed:Array Bool) (env:C1) (a:Act) (w:wd),EZ p<=fuel->Dc ops p v6 (listed.setIfInBounds i v7)=v7->De n env a->
    Dd P ops S v7 (λe w=>Q .normal e w) (.go i p q) v8 env w->
    wpOp P ops (E3 n Q) i (λa' w'=>S w'/\wpAnyH P .any ops (E3 n Q) S fuel (listed.setIfInBounds i v7) a' w') a w:=by
   intro fuel listed env a w hf hok he h;simp only[Dd]at h;split at h
   ·exact h.elim
   ·rename_i o ho;exact RF ho (HS he h.1).1 (hdi i o ho) he (HS he h.1).2 λenv' a' w' he' hk=>⟨hk.1,ih1.1 fuel _ env' a' w' hf hok he' hk.1 hk.2⟩
  have two:∀(env:C1) (w:wd) (b:Bool),Dd P ops S v7 (λe w=>Q .normal e w) (.go i p q) b env w->Dd P ops S v7 (λe w=>Q .normal e w) (.go i p q) v8 env w/\Dd P ops S v7 (λe w=>Q .normal e w) q v7 env w:=by
   intro env w b h;refine⟨by cases b<;>exact h,?_⟩;simp only[Dd]at h;split at h
   ·exact h.elim
   ·exact h.2
  refine⟨?_,?_⟩
  ·intro fuel listed env a w hf hok he hS h;simp only[EZ]at hf;obtain⟨fuel,rfl⟩:∃m,fuel=m+1:=⟨fuel-1,by omega⟩;simp only[Dc]at hok;split at hok
   ·rename_i j rs hr;simp only[zS]at hok;obtain⟨⟨h1,h2⟩,h3⟩:=hok;obtain rfl:j=i:=yI h1;refine wpAnyH_all hr (by simp) λm hm=>?_;rcases un.1 hm with rfl|hm
    ·exact one fuel listed env a w (by omega) h2 he (two env w v8 h).1
    ·exact ih2.2 fuel rs listed env a w (by omega) h3 he hS (two env w v8 h).2 m hm
   ·cases hok
  ·intro fuel rs listed env a w hf hok he hS h m hm;simp only[EZ]at hf;cases rs with
   | nil=>cases hm
   | cons j rs=>
    simp only[Dc,zS]at hok;obtain⟨⟨h1,h2⟩,h3⟩:=hok;obtain rfl:j=i:=yI h1;rcases un.1 hm with rfl|hm
    ·exact one fuel listed env a w (by omega) h2 he (two env w v7 h).1
    ·exact ih2.2 fuel rs listed env a w (by omega) h3 he hS (two env w v7 h).2 m hm
def Hg:Plan->Bool
 | .fin=>v7
 | .take _ _=>v8
 | .go _ p q=>Hg p && Hg q
def NL{P:we}{r:Option Nat}{n:Nat}{ops:Array Oper}{i:Nat}{o:Oper}{env:C1}{w:wd}{a:Act}{K:EK}{K':Act->wd->Prop}{Q:Exit->Act->wd->Prop}(hi:ops[i]?=vz o)(hd:Ky n o)(he:De n env a)(h:HW P ops o env w K)(hk:∀env' a' w',De n env' a'->K env' w'->K' a' w'):wpOpIn (Fc r) 0 P ops Q i K' a w:=by
 unfold wpOpIn;simp only[hi];rcases HC he h with⟨hw,h1⟩|⟨hw,h1⟩
 ·rw[vn hw];exact ID.wpIn (Jl h1) (I2 (λx v hv=>he.eval hv) h1) λv w' hkv=>hk _ _ _ (he.putE hd v) hkv
 ·rw[vm (by simp[hw])];exact⟨λ_ _=>trivial,hk _ _ _ (he.putE hd undef) h1⟩
def Nm{P:we}{r:Option Nat}{n:Nat}{ops:Array Oper}{S:wd->Prop}{Q:Exit->C1->wd->Prop}(hd:∀o∈ops.toList,Ky n o)(p:Plan):Hg p=v7->
  (∀(fuel:Nat) (listed:Array Bool) (env:C1) (a:Act) (w:wd),EZ p<=fuel->Dc ops p v6 listed=v7->De n env a->
   Dd P ops S v8 (λe w=>Q .normal e w) p v8 env w->wpAnyIn (Fc r) 0 P .any ops (E3 n Q) fuel listed a w)/\
  (∀(fuel:Nat) (rs:List Nat) (listed:Array Bool) (env:C1) (a:Act) (w:wd),EZ p<=fuel+1->Dc ops p (vz rs) listed=v7->De n env a->
   Dd P ops S v8 (λe w=>Q .normal e w) p v7 env w->∀i∈rs,wpOpIn (Fc r) 0 P ops (E3 n Q) i (λa' w'=>wpAnyIn (Fc r) 0 P .any ops (E3 n Q) fuel (listed.setIfInBounds i v7) a' w') a w):=by
 have hdi:∀(i:Nat) (o:Oper),ops[i]?=vz o->Ky n o:=λi o ho=>hd o (by simpa using Array.mem_of_getElem? ho);induction p with
 | fin=>
  intro _;refine⟨?_,?_⟩
  ·intro fuel listed env a w _ hok he h;exact wpAnyIn_done (by simpa[Dc] using hok) ⟨env,he,h⟩ fuel
  ·intro fuel rs listed env a w _ hok _ _ i hi;simp only[Dc,List.isEmpty_iff]at hok;subst hok;cases hi
 | take i p ih=>intro h;cases h
 | go i p q ih1 ih2=>
  intro hg;simp only[Hg,zS]at hg;have ih1:=ih1 hg.1;have ih2:=ih2 hg.2;have one:∀(fuel:Nat) (listed:Array Bool) (env:C1) (a:Act) (w:wd),EZ p<=fuel->Dc ops p v6 (listed.setIfInBounds i v7)=v7->De n env a->
    Dd P ops S v8 (λe w=>Q .normal e w) (.go i p q) v8 env w->
    wpOpIn (Fc r) 0 P ops (E3 n Q) i (λa' w'=>wpAnyIn (Fc r) 0 P .any ops (E3 n Q) fuel (listed.setIfInBounds i v7) a' w') a w:=by
   intro fuel listed env a w hf hok he h;simp only[Dd]at h;split at h
   ·exact h.elim
   ·rename_i o ho;have h1:HW P ops o env w λenv' w'=>S w'/\Dd P ops S v8 (λe w=>Q .normal e w) p v8 env' w':=h.1;exact NL ho (hdi i o ho) he h1 λenv' a' w' he' hk=>ih1.1 fuel _ env' a' w' hf hok he' hk.2
  have two:∀(env:C1) (w:wd) (b:Bool),Dd P ops S v8 (λe w=>Q .normal e w) (.go i p q) b env w->Dd P ops S v8 (λe w=>Q .normal e w) (.go i p q) v8 env w/\Dd P ops S v8 (λe w=>Q .normal e w) q v7 env w:=by
   intro env w b h;refine⟨by cases b<;>exact h,?_⟩;simp only[Dd]at h;split at h
   ·exact h.elim
   ·exact h.2
  refine⟨?_,?_⟩
  ·intro fuel listed env a w hf hok he h;simp only[EZ]at hf;obtain⟨fuel,rfl⟩:∃m,fuel=m+1:=⟨fuel-1,by omega⟩;simp only[Dc]at hok;split at hok
   ·rename_i j rs hr;simp only[zS]at hok;obtain⟨⟨h1,h2⟩,h3⟩:=hok;obtain rfl:j=i:=yI h1;refine wpAnyIn_all hr (by simp) λm hm=>?_;rcases un.1 hm with rfl|hm
    ·exact one fuel listed env a w (by omega) h2 he (two env w v8 h).1
    ·exact ih2.2 fuel rs listed env a w (by omega) h3 he (two env w v8 h).2 m hm
   ·cases hok
  ·intro fuel rs listed env a w hf hok he h m hm;simp only[EZ]at hf;cases rs with
   | nil=>cases hm
   | cons j rs=>
    simp only[Dc,zS]at hok;obtain⟨⟨h1,h2⟩,h3⟩:=hok;obtain rfl:j=i:=yI h1;rcases un.1 hm with rfl|hm
    ·exact one fuel listed env a w (by omega) h2 he (two env w v7 h).1
    ·exact ih2.2 fuel rs listed env a w (by omega) h3 he (two env w v7 h).2 m hm
abbrev QE:=Exit->C1->wd->Prop
structure Cd where
 cuts:List (Nat × List Nat)
 loops:List (Nat × List Nat)
 labels:List (Nat × List Nat)
 plans:List (Nat × Plan)
 rd:Option Nat:=v6
def Mm{α : Type}:List (Nat × α)->Nat->Option α
 | [],_=>v6
 | (k,v)::r,t=>cond (Nat.beq k t) (vz v) (Mm r t)
def HN:Code->Option Nat
 | .region id _ _=>vz id
 | .seq a _=>HN a
 | .block _ c | .loop c | .scope c=>HN c
 | _=>v6
def sub:List Nat->C1->Option C1
 | [],_=>vz []
 | t::ts,env=>match lk env t,sub ts env with
  | some v,some r=>some ((t,v)::r)
  | _,_=>v6
theorem Rl:∀(ts:List Nat) (env env':C1),sub ts env=vz env'->∀t v,lk env' t=vz v->lk env t=vz v
 | [],env,env',h,t,v,hv=>by simp[sub]at h;subst h;simp[lk]at hv
 | t0::ts,env,env',h,t,v,hv=>by
  simp only[sub]at h;split at h
  ·rename_i v0 r h0 hr;simp only[zM]at h;subst h;rw[GV]at hv;by_cases ht:t0=t
   ·subst ht;simp only[vj,zM]at hv;subst hv;exact h0
   ·rw[vm ht]at hv;exact Rl ts env r hr t v hv
  ·cases h
def Lc(live:Option (List Nat))(env:C1)(K:C1->Prop):Prop:=
 match live with
 | none=>K env
 | some ts=>match sub ts env with
  | some env'=>match lk env Ea,lk env' Ea with
   | some _,v6=>False
   | _,_=>K env'
  | none=>False
def H5{n:Nat}{live:Option (List Nat)}{env:C1}{K:C1->Prop}{a:Act}(h:Lc live env K)(he:De n env a):∃env',De n env' a/\K env':=by
 unfold Lc at h;split at h
 ·exact⟨env,he,h⟩
 ·split at h
  ·rename_i env' hs;split at h
   ·exact h.elim
   ·rename_i hne;refine⟨env',he.mono (Rl _ _ _ hs) λhm=>?_,h⟩;cases h1:lk env Ea with
    | none=>rw[h1]at hm;cases hm
    | some v=>
     cases h2:lk env' Ea with
     | some u=>rfl
     | none=>exact (hne v h1 h2).elim
  ·exact h.elim
def Ps(l:List (Nat × List Nat))(r:Option Nat):Option (List Nat):=match r with | vz r=>Mm l r | v6=>v6
def Mo(A:Cd)(r:Option Nat)(Y:EK)(Q:QE):QE:=λe env w=>match e with
 | .normal=>Lc (Ps A.cuts r) env λenv'=>Y env' w
 | e=>Q e env w
def MB(id:Nat)(Q:QE):QE:=λe env w=>match e with
 | .exit i=>cond (Nat.beq i id) (Q .normal env w) (Q (.exit i) env w)
 | e=>Q e env w
def Km(P:we)(n:Nat)(r:Option Nat)(body:Code)(Q:QE)(env:C1)(w:wd):Prop:=
 ∀a,De n env a->∀(b:Frame) (k:List Item) (cs:List Frame),b.roundOf=r->∃e a' w',E3 n Q e a' w'/\ArrivesIn (Machine.fenced P (Fc r)) P (lone (b.atR a (.code body::.inLoop body::k)) cs w) b k cs e a' w'
def Mn(A:Cd)(P:we)(n:Nat)(body:Code)(Q:QE):QE:=λe env w=>match e with
 | .normal=>Lc (vz ((Ps A.loops (HN body)).getD [])) env λenv'=>Km P n A.rd body Q env' w
 | e=>Q e env w
def VR(P:we)(n:Nat)(r:Option Nat)(body c:Code)(Q:QE)(env:C1)(w:wd):Prop:=
 ∀a,De n env a->∀(b:Frame) (k:List Item) (cs:List Frame),b.roundOf=r->∃e a' w',E3 n Q e a' w'/\ArrivesIn (Machine.fenced P (Fc r)) P (lone (b.atR a (.code c::.inScope body::k)) cs w) b k cs e a' w'
def KL(A:Cd)(P:we)(n:Nat)(body:Code)(Q:QE):QE:=λe env w=>match e with
 | .goto l=>match findLabel body l with
  | some rest=>Lc (some ((Mm A.labels l).getD [])) env λenv'=>VR P n A.rd body rest Q env' w
  | none=>Q (.goto l) env w
 | e=>Q e env w
def A4(w:wd)(F:(wd->Prop)->wd->Prop):Prop:=∃S:wd->Prop,S { w with drawn:=w.drawn+1 }/\F S { w with drawn:=w.drawn+1 }
def QQ(A:Cd)(P:we)(n id:Nat)(ops:Array Oper):Option Plan:=
 match Mm A.plans id with
 | some p=>cond (Js n ops.toList && Region.noSelect ops && P.follows .mixedOrders && Dc ops p v6 (Array.replicate ops.size v8) && Nat.ble (EZ p) ops.size) (some p) v6
 | none=>none
def I3(A:Cd)(P:we)(n id:Nat)(ops:Array Oper)(draw:Bool)(K:EK)(env:C1)(w:wd):Prop:=
 match draw with
 | false=>cond (Js n ops.toList) (N2 P ops ops.toList env w K) False
 | true=>match QQ A P n id ops with
  | some p=>cond (Hg p || A.rd.isNone) (A4 w λS w=>Dd P ops S (!Hg p) K p v8 env w) False
  | none=>False
def Bn(P:we)(n:Nat)(gv:wc)(ps:Array Tmp)(aq bd:Code)(env:C1)(w:wd)(K:Nat->Option Code->wd->Prop):Prop:=
 match gv with
 | .func (.func f) first captured=>cond (DX P f) (∀fn tmps,tmps.size=n->(∀t v,GC env t=vz v->tmps[t]?=vz v)->
  I P f (first.toList++([wc.func (.yield (w.heap.size+1)) #[] #[]]++captured.toList)).toArray ((w.alloc (.deferred (vz []))).alloc (.loop { state := .ready,pending:=v6,fn:=fn,tmps:=tmps,params:=ps,assign:=aq,body:=bd,defers:=w.heap.size })) λ_ w'=>∃rec,w'.heap[w.heap.size+1]?=vz (.loop rec)/\rec.state ≠ .busy/\K w.heap.size rec.pending (w'.putObj (w.heap.size+1) (.loop { rec with state := .exhausted }))) False
 | _=>False
def R3(Q:QE)(env:C1)(D:Nat)(j:Option Code)(w:wd):Prop:=
 match j with
 | none=>Q .normal ((Ea,.int .i64 (D:Int))::env) w
 | some .ret=>Q .ret ((Ea,.int .i64 (D:Int))::env) w
 | some (.exit id)=>Q (.exit id) ((Ea,.int .i64 (D:Int))::env) w
 | _=>False
def Di(A:Cd)(P:we)(n:Nat):Code->QE->C1->wd->Prop
 | .skip,Q,env,w=>Q .normal env w
 | .label _,Q,env,w=>Q .normal env w
 | .region id ops draw,Q,env,w=>I3 A P n id ops draw (λenv w=>Q .normal env w) env w
 | .seq x y,Q,env,w=>Di A P n x (Mo A (HN y) (λenv w=>Di A P n y Q env w) Q) env w
 | .cond c x y,Q,env,w=>match ev env c with
  | some v=>Af v (Di A P n x Q env w) (Di A P n y Q env w)
  | none=>False
 | .block id c,Q,env,w=>Di A P n c (MB id Q) env w
 | .loop c,Q,env,w=>Lc (vz ((Ps A.loops (HN c)).getD [])) env λenv'=>Km P n A.rd c Q env' w
 | .scope c,Q,env,w=>Di A P n c (KL A P n c Q) env w
 | .exit id,Q,env,w=>Q (.exit id) env w
 | .goto l,Q,env,w=>Q (.goto l) env w
 | .ret,Q,env,w=>Q .ret env w
 | .rangeFunc g ps aq bd,Q,env,w=>match ev env g,lk env Ea with
  | some gv,v6=>cond A.rd.isNone (Bn P n gv ps aq bd env w (R3 Q env)) False
  | _,_=>False
 | _,_,_,_=>False
section
variable{A:Cd}{P:we}{n:Nat}
def Ly{id:Nat}{ops:Array Oper}{draw:Bool}{Q:QE}{env:C1}{w:wd}{a:Act}(he:De n env a)(h:I3 A P n id ops draw (λenv w=>Q .normal env w) env w):(Code.region id ops draw).wpIn (Fc A.rd) 0 P (E3 n Q) a w:=by
 cases draw with
 | false=>
  simp only[I3]at h;cases hd:Js n ops.toList with
  | false=>rw[hd]at h;exact h.elim
  | true=>
   rw[hd]at h;exact wpIn_region_list (Hw _ _ _ _ (Ic hd) he h)
 | true=>
  simp only[I3]at h;split at h
  ·rename_i p hp;unfold QQ at hp;split at hp
   ·rename_i p' hp';cases hc:(Js n ops.toList && Region.noSelect ops && P.follows .mixedOrders && Dc ops p' v6 (Array.replicate ops.size v8) && Nat.ble (EZ p') ops.size) with
    | false=>rw[hc]at hp;cases hp
    | true=>
     rw[hc]at hp;cases hp;simp only[zS]at hc;obtain⟨⟨⟨⟨h1,h2⟩,h3⟩,h4⟩,h5⟩:=hc;cases hg:Hg p with
     | true=>
      rw[hg]at h;obtain⟨S,hS,h⟩:=h;exact wpIn_region_any h3 (((Nm (Ic h1) p hg).1 ops.size _ env a _ (yJ h5) h4 he h))
     | false=>
      rw[hg]at h;cases hr:A.rd.isNone with
      | false=>rw[hr]at h;exact h.elim
      | true=>
       rw[hr]at h;simp only[xM]at hr;obtain⟨S,hS,h⟩:=h;rw[hr];exact wpIn_wide.2 (wp_region_held h3 ((P9 h2 (Ic h1) p).1 ops.size _ env a _ (yJ h5) h4 he hS h))
   ·cases hp
  ·exact h.elim
section
variable{b:Frame}{a:Act}{k:List Item}{cs:List Frame}{w:wd}
def Es{c:Code}:step P (lone (b.atR a (.code (.scope c)::k)) cs w)=.next (lone (b.atR a (.code c::.inScope c::k)) cs w):=
 step_lone_go (by simp[stepG,stepG.exec,Frame.atR])
def Mh{c:Code}:step P (lone (b.atR a (.inScope c::k)) cs w)=.next (lone (b.atR a k) cs w):=
 step_lone_go (by simp[stepG,stepG.exec,Frame.atR])
end
def OH(r:Option Nat)(m:Nat):(Fc r).room m:=λd hd=>by simp[Fc,Fence.wide]at hd
def Sc{r:Option Nat}{body:Code}{Q:QE}{env:C1}{w:wd}{a:Act}(he:De n env a)(h:Km P n r body Q env w):(Code.loop body).wpIn (Fc r) 0 P (E3 n Q) a w:=by intro b k cs hro hb hr;obtain⟨e,a',w',hq,harr⟩:=h a he b k cs hro;exact⟨e,a',w',hq,.of_steps (.one (fenced_calm (n:=0) hb hr rfl) stepR_loop) harr⟩
def RH{r:Option Nat}{rr:Option Nat}{Y:Code}{Q:QE}(hY:∀env a w,De n env a->Di A P n Y Q env w->Y.wpIn (Fc rr) 0 P (E3 n Q) a w)(e:Exit)(a:Act)(w:wd)(h:E3 n (Mo A r (λenv w=>Di A P n Y Q env w) Q) e a w):Exit.then (Y.wpIn (Fc rr) 0 P (E3 n Q)) (E3 n Q) e a w:=by
 cases e with
 | normal=>
  obtain⟨env,he,h⟩:=h;simp only[Mo]at h;obtain⟨env',he',h'⟩:=H5 h he;exact hY env' a w he' h'
 | panic c=>exact h.elim
 | outgrown=>exact h.elim
 | exit i=>exact h
 | goto l=>exact h
 | ret=>exact h
def FS:∀(c:Code) (Q:QE) (env:C1) (a:Act) (w:wd),De n env a->Di A P n c Q env w->c.wpIn (Fc A.rd) 0 P (E3 n Q) a w:=by
 intro c;induction c with
 | skip=>intro Q env a w he h;exact wpIn_skip ⟨env,he,h⟩
 | label l=>intro Q env a w he h;exact wpIn_label ⟨env,he,h⟩
 | region id ops draw=>intro Q env a w he h;exact Ly he h
 | seq x y ihx ihy=>
  intro Q env a w he h;exact wpIn_seq (wpIn_mono (ihx _ env a w he h) λe a w hq=>RH (λenv a w he h=>ihy Q env a w he h) e a w hq)
 | cond c x y ihx ihy=>
  intro Q env a w he h;simp only[Di]at h;split at h
  ·rename_i v hv;obtain⟨t,rfl,h1,h2⟩:=h;exact wpIn_cond_split (he.eval hv) (λht=>ihx Q env a w he (h1 ht)) (λht=>ihy Q env a w he (h2 ht))
  ·exact h.elim
 | block id c ih=>
  intro Q env a w he h;refine wpIn_block (wpIn_mono (ih _ env a w he h) λe a w hq=>?_);cases e with
  | exit i=>
   obtain⟨env',he',hq⟩:=hq;simp only[MB]at hq;simp only[Exit.inBlock];cases hb:Nat.beq i id with
   | true=>
    rw[hb]at hq;rw[vn (yI hb)];exact⟨env',he',hq⟩
   | false=>
    rw[hb]at hq;rw[vm (xY hb)];exact⟨env',he',hq⟩
  | normal=>exact hq
  | goto l=>exact hq
  | ret=>exact hq
  | panic c=>exact hq
  | outgrown=>exact hq
 | loop c _=>
  intro Q env a w he h;obtain⟨env',he',h'⟩:=H5 h he;exact Sc he' h'
 | scope c ih=>
  intro Q env a w he h;intro b k cs hro hb hr;obtain⟨e,a₁,w₁,hq,harr⟩:=ih _ env a w he h b (.inScope c::k) cs hro hb hr;have i0:=fenced_calm (P:=P) (F:=Fc A.rd) (n:=0) (fr:=b.atR a (.code (.scope c)::k)) (cs:=cs) (w:=w) hb hr rfl;cases e with
  | normal=>exact⟨.normal,a₁,w₁,hq,.head i0 Es (StepsIn.trans harr (.one (fenced_calm (n:=0) hb hr rfl) Mh))⟩
  | exit id=>
   have hx:exitTo id (.inScope c::k)=exitTo id k:=by simp[exitTo]
   exact⟨.exit id,a₁,w₁,hq,λk' hk => .head i0 Es (harr.1 k' (by rw[hx];exact hk)),
    λhr' hk=>let ⟨k₁,h1,h2⟩:=harr.2 hr' (by rw[hx];exact hk); ⟨k₁,h1,.head i0 Es h2⟩⟩
  | goto l=>
   obtain⟨env₁,he₁,hq⟩:=hq;simp only[KL]at hq;split at hq
   ·rename_i rest hrest;obtain⟨env₂,he₂,hq⟩:=H5 hq he₁;obtain⟨e₂,a₂,w₂,hq₂,harr₂⟩:=hq a₁ he₂ b k cs hro;exact⟨e₂,a₂,w₂,hq₂,.of_steps (.head i0 Es (harr.1 _ (by simp[gotoIn,hrest]))) harr₂⟩
   ·rename_i hnone;have hx:gotoIn l (.inScope c::k)=gotoIn l k:=by simp[gotoIn,hnone]
    exact⟨.goto l,a₁,w₁,⟨env₁,he₁,hq⟩,λk' hk => .head i0 Es (harr.1 k' (by rw[hx];exact hk)),
     λhr' hk=>let ⟨k₁,h1,h2⟩:=harr.2 hr' (by rw[hx];exact hk); ⟨k₁,h1,.head i0 Es h2⟩⟩
  | ret=>exact⟨.ret,a₁,w₁,hq,.of_steps (.one i0 Es) harr⟩
  | panic ch=>exact hq.elim
  | outgrown=>exact hq.elim
 | exit id=>intro Q env a w he h;exact wpIn_exit ⟨env,he,h⟩
 | goto l=>intro Q env a w he h;exact wpIn_goto ⟨env,he,h⟩
 | ret=>intro Q env a w he h;exact wpIn_ret ⟨env,he,h⟩
 | rangeFunc g ps aq bd _ _=>
  intro Q env a w he h;simp only[Di]at h;split at h
  ·rename_i gv hgv hmk;cases hr:A.rd.isNone with
   | false=>rw[hr]at h;exact h.elim
   | true=>
    rw[hr]at h;simp only[xM]at hr;rw[hr];have hg:=he.eval hgv;refine wpIn_rangeFunc λfn _=>?_;simp only[vf]at h;unfold Bn at h;split at h
    ·rename_i f' first captured
     cases hb:DX P f' with
     | false=>rw[hb]at h;exact h.elim
     | true=>
      rw[hb]at h;have h:=h fn a.tmps he.size he.has;have hent:=run_enterLoop_outer (P:=P) (w:=w) fn a.tmps ps aq bd;generalize (w.alloc (.deferred (vz []))).alloc (.loop { state := .ready,pending:=v6,fn:=fn,tmps:=a.tmps,params:=ps,assign:=aq,body:=bd,defers:=w.heap.size })=W1 at *
      refine⟨w.heap.size+1,[{ target := .collected w.heap.size,args := #[] }],W1,{ target := .fn (.func f') captured,args:=first++#[wc.func (.yield (w.heap.size+1)) #[] #[]] },W1,f',(first++#[wc.func (.yield (w.heap.size+1)) #[] #[]])++captured,W1,hent,?_,λ_ _=>trivial,?_,λhd=>by simp[Fc,Fence.wide]at hd,?_⟩
      ·simp only[resolve,Deferred.ofValue,hg,u2];simp[Act.eval]
      ·unfold DX at hb;split at hb
       ·rename_i fn' hfn;simp only[zS,zD]at hb;obtain⟨hb1,hb2⟩:=hb;have hb3:fn'.body.isNone=v8:=by cases hq:fn'.body<;>simp_all
        simp only[invoke,callFunc,u1,u2,zN,run_program,hfn,hb2,hb3,yT,vg]
       ·cases hb
      ·have ha:(first++#[wc.func (.yield (w.heap.size+1)) #[] #[]])++captured=(first.toList++([wc.func (.yield (w.heap.size+1)) #[] #[]]++captured.toList)).toArray:=by apply vd;simp
       rw[ha];refine CallsIn.mono (callsIn_wide.2 h) ?_;rintro e w' ⟨v,rfl,rec,hrec,hst,hq⟩;refine⟨_,_,run_endLoop hrec hst,?_⟩;have he':De n ((Ea,.int .i64 (w.heap.size:Int))::env) { a with defers:=[{ target := .collected w.heap.size,args := #[] }]++a.defers }:=by
        refine⟨?_,he.size,λt v hv=>?_⟩
        ·have hm0:EN env=[]:=by unfold EN;rw[hmk]
         have hm1:EN ((Ea,.int .i64 (w.heap.size:Int))::env)=[{ target := .collected w.heap.size,args := #[] }]:=by unfold EN;rw[GV,vn rfl];simp
         rw[hm1,he.defers,hm0];rfl
        ·obtain⟨ht,hv⟩:=Hk hv;rw[GV,vm (vk ht)]at hv;exact he.has t v (Na ht hv)
       unfold R3 at hq;cases hp:rec.pending with
       | none=>rw[hp]at hq;exact⟨_,he',hq⟩
       | some c=>
        rw[hp]at hq;cases c with
        | ret=>exact wpIn_ret ⟨_,he',hq⟩
        | exit id=>exact wpIn_exit ⟨_,he',hq⟩
        | _=>exact hq.elim
    ·exact h.elim
  ·exact h.elim
 | refuse why=>intro Q env a w he h;exact h.elim
def Pa{body:Code}{Q:QE}{env:C1}{w:wd}(h:Di A P n body (Mn A P n body Q) env w):Km P n A.rd body Q env w:=by
 intro a he b k cs hro;obtain⟨e,a₁,w₁,hq,harr⟩:=FS body _ env a w he h b (.inLoop body::k) cs hro trivial (OH _ _);cases e with
 | normal=>
  obtain⟨env₁,he₁,hq⟩:=hq;simp only[Mn]at hq;obtain⟨env₂,he₂,hq⟩:=H5 hq he₁;obtain⟨e₂,a₂,w₂,hq₂,harr₂⟩:=hq a₁ he₂ b k cs hro;exact⟨e₂,a₂,w₂,hq₂,.of_steps (StepsIn.trans harr (.one (fenced_calm (n:=0) trivial (OH _ _) rfl) stepR_inLoop)) harr₂⟩
 | exit id=>exact⟨.exit id,a₁,w₁,hq,.pass (x := .inLoop body) rfl (λ_ _ => .inl (by simp)) harr⟩
 | goto l=>exact⟨.goto l,a₁,w₁,hq,.pass (x := .inLoop body) rfl (λ_ _ => .inl (by simp)) harr⟩
 | ret=>exact⟨.ret,a₁,w₁,hq,.pass (x := .inLoop body) rfl (λ_ _ => .inl (by simp)) harr⟩
 | panic ch=>exact hq.elim
 | outgrown=>exact hq.elim
end
def FJ(A:Cd)(P:we)(n:Nat)(F:Code->QE->Prop):List Nat->Code->QE->Prop
 | [],c,Q=>F c Q
 | i::p,c,Q=>match c,i with
  | .seq x y,0=>FJ A P n F p x (Mo A (HN y) (λenv w=>Di A P n y Q env w) Q)
  | .seq _ y,_=>FJ A P n F p y Q
  | .cond _ x _,0=>FJ A P n F p x Q
  | .cond _ _ y,_=>FJ A P n F p y Q
  | .block id c,_=>FJ A P n F p c (MB id Q)
  | .loop c,_=>FJ A P n F p c (Mn A P n c Q)
  | .scope c,0=>FJ A P n F p c (KL A P n c Q)
  | .scope c,l=>match findLabel c (l-1) with
   | some rest=>FJ A P n F p rest (KL A P n c Q)
   | none=>False
  | _,_=>False
theorem EP{A:Cd}{P:we}{n:Nat}{F G:Code->QE->Prop}(hFG:∀c Q,F c Q->G c Q):∀(p:List Nat) (c:Code) (Q:QE),FJ A P n F p c Q->FJ A P n G p c Q
 | [],c,Q,h=>hFG c Q h
 | i::p,c,Q,h=>by
  cases c with
  | seq x y=>cases i with
   | zero=>exact EP hFG p _ _ h
   | succ i=>exact EP hFG p _ _ h
  | cond v x y=>cases i with
   | zero=>exact EP hFG p _ _ h
   | succ i=>exact EP hFG p _ _ h
  | block id c=>exact EP hFG p _ _ h
  | loop c=>exact EP hFG p _ _ h
  | scope c=>cases i with
   | zero=>exact EP hFG p _ _ h
   | succ i=>
    unfold FJ at h ⊢;simp only at h ⊢;cases hl:findLabel c (i+1-1) with
    | none=>rw[hl]at h;exact h.elim
    | some rest=>rw[hl]at h;exact EP hFG p _ _ h
  | _=>exact h.elim
def MW(A:Cd)(P:we)(n:Nat)(env:C1)(w:wd):Code->QE->Prop
 | .loop b,Q=>Km P n A.rd b Q env w
 | _,_=>False
def UN(A:Cd)(P:we)(n:Nat)(env:C1)(w:wd):Code->QE->Prop
 | .loop b,Q=>Di A P n b (Mn A P n b Q) env w
 | _,_=>False
def BW{A:Cd}{P:we}{n:Nat}{env:C1}{w:wd}{p:List Nat}{c:Code}{Q:QE}(h:FJ A P n (UN A P n env w) p c Q):FJ A P n (MW A P n env w) p c Q:=
 EP (λc Q h=>by cases c<;>first | exact Pa h | exact h.elim) p c Q h
def KN:List wc->wc
 | [v]=>v
 | vs => .tuple vs.toArray
def Iu(P:we):List ResultVar->C1->wd->(List wc->Prop)->Prop
 | [],_,_,k=>k []
 | .tmp t::r,env,w,k=>match GC env t with
  | some v=>Iu P r env w λvs=>k (v::vs)
  | none=>False
 | .cell x t::r,env,w,k=>match GC env x,Ks P t,G9 P t with
  | some p,some v7,some n=>Ak n p w λv _=>Iu P r env w λvs=>k (v::vs)
  | some p,some v8,_=>Ad p w λv _=>Iu P r env w λvs=>k (v::vs)
  | _,_,_=>False
def K4(P:we)(rs:List ResultVar)(env:C1)(w:wd)(K:VK):Prop:=
 match lk env Ea with
 | none=>Iu P rs env w λvs=>K (KN vs) w
 | some (.int _ D)=>w.heap[D.toNat]?=some (.deferred (some []))/\Iu P rs env (w.putObj D.toNat (.deferred v6)) λvs=>K (KN vs) (w.putObj D.toNat (.deferred v6))
 | some _=>False
def W9(P:we)(rs:List ResultVar)(K:VK):QE:=λe env w=>match e with
 | .normal=>K4 P rs env w K
 | .ret=>K4 P rs env w K
 | _=>False
def H2:List wc->Nat->C1
 | [],_=>[]
 | v::r,i=>(i,v)::H2 r (i+1)
def TN(A:Cd)(P:we)(f:FuncId)(args:List wc)(w:wd)(K:VK):Prop:=
 match P.funcs[f]? with
 | some fn=>match fn.body with
  | some c=>cond (Nat.ble args.length fn.ntmps && Nat.ble args.length 1000 && A.rd.isNone) (Di A P fn.ntmps c (W9 P fn.results.toList K) (H2 args 0) w) False
  | none=>False
 | none=>False
def Je(a:Act):ResultVar->Sem wc
 | .tmp t=>pure (a.tmps.getD t undef)
 | .cell x t=>do loadVar t (<-asAddr (a.tmps.getD x undef))
theorem Iv{P:we}{n:Nat}{env:C1}{a:Act}{w:wd}(he:De n env a):∀(rs:List ResultVar) (k:List wc->Prop),Iu P rs env w k->
  ∃vs,(rs.mapM (Je a)).run P w=.ok vs w/\k vs
 | [],k,h=>⟨[],by simp,h⟩
 | .tmp t::r,k,h=>by
  simp only[Iu]at h;split at h
  ·rename_i v hv;obtain⟨vs,hr,hk⟩:=Iv he r _ h;refine⟨v::vs,?_,hk⟩;have:=he.has t v hv;have e:a.tmps.getD t undef=v:=by simp[this]
   simp only[List.mapM_cons,Je,u1,u2,zN,hr,e]
  ·exact h.elim
 | .cell x t::r,k,h=>by
  simp only[Iu]at h;split at h
  ·rename_i p m hp hag hm;obtain⟨ad,cs,rfl,hc,h⟩:=h;obtain⟨vs,hr,hk⟩:=Iv he r _ h;refine⟨_,?_,hk⟩;have e:a.tmps.getD x undef=.pointer (vz ad):=by simp[he.has x _ hp]
   simp only[List.mapM_cons,Je,u1,e,asAddr,u2,zN,loadVar,FM hag,vj,D5 hm,loadCells,Gk P w ad m 0 #[] cs hc,hr];simp
  ·rename_i p q hp hag;obtain⟨ad,v,rfl,hc,h⟩:=h;obtain⟨vs,hr,hk⟩:=Iv he r _ h;refine⟨_,?_,hk⟩;have e:a.tmps.getD x undef=.pointer (vz ad):=by simp[he.has x _ hp]
   simp only[List.mapM_cons,Je,u1,e,asAddr,u2,zN,loadVar,FM hag,yT,vg,run_load,hc,hr]
  ·exact h.elim
def JJ{P:we}{n:Nat}{env:C1}{a:Act}{w:wd}{fn:Func}{K:List wc->Prop}(he:De n env a)(h:Iu P fn.results.toList env w K):
  ∃vs,(results fn a.tmps).run P w=.ok (KN vs) w/\K vs:=by
 obtain⟨vs,hr,hk⟩:=Iv he _ _ h;refine⟨vs,?_,hk⟩;have hres:results fn a.tmps=(do
   let vs <-fn.results.mapM (Je a)
   pure (if h:vs.size=1 then vs[0] else .tuple vs)):=by unfold results;congr 1
 rw[hres,Array.mapM_eq_mapM_toList];simp only[u1,Sem.run_map];rw[hr];simp only[zN,u2,Result.ok.injEq,and_true]
 match vs with
 | []=>rfl
 | [v]=>rfl
 | v::u::r=>simp[KN]
theorem JQ:∀(l:List wc) (i t:Nat) (v:wc),lk (H2 l i) t=vz v->i<=t/\l[t-i]?=vz v
 | [],i,t,v,h=>by simp[H2,lk]at h
 | u::l,i,t,v,h=>by
  simp only[H2]at h;rw[GV]at h;by_cases hit:i=t
  ·subst hit;simp only[vj,zM]at h;subst h;simp
  ·rw[vm hit]at h;obtain⟨h1,h2⟩:=JQ l (i+1) t v h;refine⟨by omega,?_⟩;have:t-i=(t-(i+1))+1:=by omega
   rw[this,xR];exact h2
def BK{A:Cd}{P:we}{f:FuncId}{args:List wc}{w:wd}{K:VK}(h:TN A P f args w K):I P f args.toArray w K:=by
 unfold TN at h;split at h
 ·rename_i fn hfn;split at h
  ·rename_i c hc;cases hb:(Nat.ble args.length fn.ntmps && Nat.ble args.length 1000 && A.rd.isNone) with
   | false=>rw[hb]at h;exact h.elim
   | true=>
    rw[hb]at h;simp only[vf]at h;simp only[zS,xM]at hb;obtain⟨⟨hb1,hb2⟩,hrd⟩:=hb;have hle:args.length<=fn.ntmps:=yJ hb1;have hle2:args.length<=1000:=yJ hb2;unfold I;refine callsIn_wide.1 (callsIn_of_wp_marks (n:=0) hfn hc trivial ?_);have hmk:EN (H2 args 0)=[]:=by
     unfold EN;cases hl:lk (H2 args 0) Ea with
     | none=>rfl
     | some v=>
      have:=(JQ args 0 Ea v hl).2;have:=(xI.1 this).1;simp only[Ea,Nat.sub_zero]at this;omega
    have he:De fn.ntmps (H2 args 0) { tmps:=args.toArray++Array.replicate (fn.ntmps-args.toArray.size) undef,defers:=[] }:=by refine⟨hmk.symm,by simp;omega,λt v hv=>?_⟩;obtain⟨_,h2⟩:=JQ args 0 t v (Hk hv).2;simp only[Nat.sub_zero]at h2;have hlt:t<args.length:=(xI.1 h2).1;rw[Array.getElem?_append_left (by simpa using hlt)];simpa using h2
    have leave:∀(env:C1) (a:Act) (w:wd),De fn.ntmps env a->K4 P fn.results.toList env w K->LeavesInM Fence.wide 0 P fn a.tmps (λe w'=>∃v,e=.returned v/\K v w') a.defers .returning w:=by
     intro env a w he hq;unfold K4 at hq;rw[he.defers];unfold EN;split at hq
     ·rename_i hl;obtain⟨vs,hr,hk⟩:=JJ (fn:=fn) he hq;rw[hl];exact⟨_,hr,_,rfl,hk⟩
     ·rename_i D hl;obtain⟨hD,hq⟩:=hq;obtain⟨vs,hr,hk⟩:=JJ (fn:=fn) he hq;rw[hl];exact⟨by simp,.inl ⟨_,_,rfl,run_takeDeferred hD,_,hr,_,rfl,hk⟩⟩
     ·exact hq.elim
    have hs:=FS c _ _ _ w he h;rw[hrd]at hs;refine wpIn_mono hs λe a w hq=>?_;cases e with
    | normal=>
     obtain⟨env,he,hq⟩:=hq;exact leave env a w he hq
    | ret=>
     obtain⟨env,he,hq⟩:=hq;exact leave env a w he hq
    | exit id=>obtain⟨env,he,hq⟩:=hq;exact hq.elim
    | goto l=>obtain⟨env,he,hq⟩:=hq;exact hq.elim
    | panic ch=>exact hq.elim
    | outgrown=>exact hq.elim
  ·exact h.elim
 ·exact h.elim
def Fh:List Nat->Code->Code
 | [],c=>c
 | i::p,c=>match c,i with
  | .seq x _,0=>Fh p x
  | .seq _ y,_=>Fh p y
  | .cond _ x _,0=>Fh p x
  | .cond _ _ y,_=>Fh p y
  | .block _ c,_=>Fh p c
  | .loop c,_=>Fh p c
  | .scope c,_=>Fh p c
  | c,_=>c
def Wd:Code->Code
 | .rangeFunc _ _ x _=>x
 | c=>c
def Wk:Code->Code
 | .rangeFunc _ _ _ x=>x
 | c=>c
def B1(l:Nat)(w:wd)(F:wd->Prop):Prop:=∃r,w.heap[l]?=vz (.loop r)/\r.state=.ready/\F (w.putObj l (.loop { r with state := .busy }))
def Bx(l:Nat)(pend:Option Code)(b:Bool)(st:LoopState)(w:wd)(K:VK):Prop:=∃r,w.heap[l]?=vz (.loop r)/\K (.bool b) (w.putObj l (.loop { r with state:=st,pending:=pend }))
def B4(j:Option Code)(a b:Prop)(f:Nat->Prop):Prop:=match j with
 | none=>a
 | some .ret=>b
 | some (.exit id)=>f id
 | _=>False
def Bl(v:wc)(w:wd)(F:wd->Prop):Prop:=match v with
 | .int _ D=>w.heap[D.toNat]?=vz (.deferred (vz []))/\F (w.putObj D.toNat (.deferred v6))
 | _=>False
def Nq(l:Nat)(K:VK):QE:=λe _ w=>match e with
 | .normal=>∃r,w.heap[l]?=vz (.loop r)/\K (.bool v7) (w.putObj l (.loop { r with state := .ready,pending:=v6 }))
 | .ret=>∃r,w.heap[l]?=vz (.loop r)/\K (.bool v8) (w.putObj l (.loop { r with state := .done,pending:=vz .ret }))
 | .exit id=>∃r,w.heap[l]?=vz (.loop r)/\K (.bool v8) (w.putObj l (.loop { r with state := .done,pending:=vz (.exit id) }))
 | _=>False
def Wl(A:Cd)(P:we)(n l:Nat)(bd:Code)(K:VK):QE:=λe env w=>match e with
 | .normal=>∃r,w.heap[l]?=vz (.loop r)/\r.state=.ready/\Di A P n bd (Nq l K) env (w.putObj l (.loop { r with state := .busy }))
 | _=>False
def Vg(A:Cd)(P:we)(n l:Nat)(aq bd:Code)(env:C1)(w:wd)(K:VK):Prop:=
 Di A P n aq (Wl A P n l bd K) env w
def putPs:List (Nat × wc)->C1->C1
 | [],env=>env
 | (t,v)::r,env=>putPs r ((t,v)::env)
theorem De.putPs{n:Nat}:∀(l:List (Nat × wc)) (env:C1) (a:Act),(∀x∈l,x.1<n/\x.1≠Ea)->De n env a->
  De n (putPs l env) { a with tmps:=l.foldl (λtmps x=>tmps.setIfInBounds x.1 x.2) a.tmps }
 | [],env,a,_,h=>h
 | (t,v)::r,env,a,hl,h=>by
  have h0:=hl (t,v) (by simp);have h1:=h.put v h0.1 h0.2;exact De.putPs r _ _ (λx hx=>hl x (by simp[hx])) h1
def N7{A:Cd}{P:we}{n l:Nat}{r:Loop}{w:wd}{args:Array wc}{env:C1}{K:VK}(hA:A.rd=vz l)(hr:w.heap[l]?=vz (.loop r))(hn:r.tmps.size=n)(hps:args.size=r.params.size)(henv:∀t v,GC env t=vz v->r.tmps[t]?=vz v)(hmk:lk env Ea=v6)(hp:∀t∈r.params.toList,t<n/\t≠Ea)(h:Vg A P n l r.assign r.body (putPs (r.params.toList.zip args.toList) env) w K):Bp P l args w K:=by
 refine⟨_,_,_,_,run_yield hr hps,?_⟩;have h0:De n env { tmps:=r.tmps,defers:=[] }:=⟨by simp[EN,hmk],hn,henv⟩;have h1:=De.putPs (r.params.toList.zip args.toList) env _ (λx hx=>hp x.1 (List.of_mem_zip hx).1) h0;have e:(r.params.zip args).foldl (λtmps (x:Nat × wc)=>tmps.setIfInBounds x.1 x.2) r.tmps=(r.params.toList.zip args.toList).foldl (λtmps x=>tmps.setIfInBounds x.1 x.2) r.tmps:=by rw[<-Array.foldl_toList,Array.toList_zip]
 have hs:=FS r.assign _ _ _ w h1 h;rw[hA]at hs;refine roundIn_of_wpIn (F:=Fence.wide) (n:=0) trivial ?_;rw[show ((r.params.zip args).foldl (λtmps (x:Nat × wc)=>match x with | (t,a)=>tmps.setIfInBounds t a) r.tmps)=(r.params.zip args).foldl (λtmps (x:Nat × wc)=>tmps.setIfInBounds x.1 x.2) r.tmps from rfl,e];refine wpIn_mono hs λe a w hq=>?_;cases e with
 | normal=>
  obtain⟨env',he',r',hr',hst,hq⟩:=hq;refine⟨_,run_beginRound hr' hst,?_⟩;have hs:=FS r.body _ _ _ _ he' hq;rw[hA]at hs;refine wpIn_mono hs λe a w hq=>?_;cases e with
  | normal=>obtain⟨_,_,r2,hr2,hk⟩:=hq;exact⟨_,_,run_endRound v6 hr2,_,rfl,hk⟩
  | ret=>obtain⟨_,_,r2,hr2,hk⟩:=hq;exact⟨_,_,run_endRound (vz .ret) hr2,_,rfl,hk⟩
  | exit id=>obtain⟨_,_,r2,hr2,hk⟩:=hq;exact⟨_,_,run_endRound (vz (.exit id)) hr2,_,rfl,hk⟩
  | goto l=>obtain⟨_,_,hq⟩:=hq;exact hq.elim
  | panic c=>exact hq.elim
  | outgrown=>exact hq.elim
 | ret=>obtain⟨_,_,hq⟩:=hq;exact hq.elim
 | exit id=>obtain⟨_,_,hq⟩:=hq;exact hq.elim
 | goto l=>obtain⟨_,_,hq⟩:=hq;exact hq.elim
 | panic c=>exact hq.elim
 | outgrown=>exact hq.elim
section
open Go.Proofs
def A0:Cd:=⟨[],[],[],[],v6⟩
noncomputable def cd(f:Func):Code:=match f.body with | vz c=>c | v6 => .skip
noncomputable def tp(f:Func)(K:VK):QE:=W9 vp f.results.toList K
def qq{a b:Prop}(h:a)(e:b=a:=by kernel_rfl):b:=e.mpr h
noncomputable def nk(A:Cd)(n:Nat)(e:List (Nat × wc))(w:wd)(p:List Nat)(c:Code)(Q:QE):Prop:=FJ A vp n (λc Q=>Di A vp n c Q e w) p c Q
noncomputable def nl(A:Cd)(n:Nat)(e:List (Nat × wc))(w:wd)(p:List Nat)(c:Code)(Q:QE):Prop:=FJ A vp n (MW A vp n e w) p c Q
def tk:List Nat->Plan->Plan
 | [],t=>t
 | n::l,t => .take n (tk l t)
def a1(l:List (Nat × List Nat)):Cd:=⟨l,[],[],[],v6⟩
noncomputable section
variable{K:VK}{w:wd}{x0 x1 x2 x3 y0 y1 y2 y3 y5 y6 y14:wc}
namespace F66
def ann:=a1 [(5,[0])]
def code:=cd f66
def BL:=tp f66
variable(K:VK)(y0:wc)(w:wd)
@[irreducible]def k5:=nk ann 18 [(0,y0)] w [1,1] code (BL K)
end F66
def F66.k5.to(h:(K y0 w)):F66.k5 K y0 w:=qq h
def F66.sh(h:(U .lss x0 x1 w λa b=>Af a (K x1 b) (U .gtr x0 x2 b λc d=>Af c (K x2 d) (F66.k5 K x0 d)))):I vp 66 #[x0,x1,x2] w K:=BK (A:=F66.ann) (args:=[x0,x1,x2]) (qq h)
namespace F117
def ann:Cd:=⟨[(3,[0]),(5,[0,3]),(6,[3])],[(4,[0,3])],[],[],v6⟩
def code:=cd f117
def BL:=tp f117
variable(K:VK)(y0 y3:wc)(w:wd)
def k3:=nk ann 22 [(0,y0)] w [1,1] code (BL K)
def k6:=nk ann 22 [(3,y3)] w [1,1,1,1] code (BL K)
def l4:=nl ann 22 [(0,y0),(3,y3)] w [1,1,1,0,0] code (BL K)
def k5:=nk ann 22 [(0,y0),(3,y3)] w [1,1,1,0,0,0,1] code (BL K)
attribute [irreducible] k3 k6 l4 k5
end F117
def F117.k3.to(h:(F117.l4 K y0 (.int .i64 1) w)):F117.k3 K y0 w:=qq h
def F117.k6.to(h:(K y3 w)):F117.k6 K y3 w:=qq h
def F117.l4.to(h:(U .lss y3 (.int .i64 5) w λa b=>Aa v7 a (λK=>K y3 b) b λc d=>Aa v7 a (λK=>I vp 175 #[c] d K) d λf g=>Aa v7 a (λK=>K y0 g) g λi j=>Aa v7 a (U .add i (.int .i64 1) j) j λk m=>Aa v7 a (U .lss f k m) m λo p=>Ar (vz a) (vz o) (vz (.bool v8)) p λq r=>Af q (F117.k5 K y0 y3 r) (F117.k6 K y3 r))):F117.l4 K y0 y3 w:=by unfold F117.l4 nl;exact BW (qq h)
def F117.k5.to(h:(U .add y3 (.int .i64 1) w λa b=>F117.l4 K y0 a b)):F117.k5 K y0 y3 w:=qq h
def F117.sh(h:(U .lss x0 (.int .i64 0) w λa b=>Aa v8 a (λK=>K x0 b) b λc d=>Aa v8 a (U .gtr c (.int .i64 127) d) d λf g=>Ar (vz a) (vz (.bool v7)) (vz f) g λi j=>Af i (K (.int .i64 0) j) (F117.k3 K x0 j))):I vp 117 #[x0] w K:=BK (A:=F117.ann) (args:=[x0]) (qq h)
namespace F120
def ann:=a1 [(3,[0])]
def code:=cd f120
def BL:=tp f120
variable(K:VK)(y0:wc)(w:wd)
@[irreducible]def k3:=nk ann 9 [(0,y0)] w [1,1] code (BL K)
end F120
def F120.k3.to(h:(U .add y0 (.int .i64 32) w λa b=>AG vp .quo 3 (.tmp 7) (.const (.int .i64 32)) a (.int .i64 32) b λc d=>K c d)):F120.k3 K y0 w:=qq h
def F120.sh(h:(I vp 117 #[x0] w λa b=>U .neq a (.int .i64 5) b λc d=>Af c (K (.int .i64 0) d) (F120.k3 K x0 d))):I vp 120 #[x0] w K:=BK (A:=F120.ann) (args:=[x0]) (qq h)
namespace F175
def ann:=a1 [(3,[0])]
def code:=cd f175
def BL:=tp f175
variable(K:VK)(y0:wc)(w:wd)
@[irreducible]def k3:=nk ann 12 [(0,y0)] w [1,1] code (BL K)
end F175
def F175.k3.to(h:(U .sub y0 (.int .i64 1) w λa b=>AG vp .shl 3 (.const (.int .i64 2)) (.tmp 10) (.int .i64 2) a b λc d=>K c d)):F175.k3 K y0 w:=qq h
def F175.sh(h:(U .lss x0 (.int .i64 1) w λa b=>Aa v8 a (λK=>K x0 b) b λc d=>Aa v8 a (U .geq c (.int .i64 5) d) d λf g=>Ar (vz a) (vz (.bool v7)) (vz f) g λi j=>Af i (K (.int .i64 0) j) (F175.k3 K x0 j))):I vp 175 #[x0] w K:=BK (A:=F175.ann) (args:=[x0]) (qq h)
namespace F263
def ann:=a1 [(3,[0])]
def code:=cd f263
def BL:=tp f263
variable(K:VK)(y0:wc)(w:wd)
@[irreducible]def k3:=nk ann 9 [(0,y0)] w [1,1] code (BL K)
end F263
def F263.k3.to(h:(I vp 175 #[y0] w λa b=>AG vp .quo 3 (.const (.int .i64 32)) (.tmp 7) (.int .i64 32) a b λc d=>K c d)):F263.k3 K y0 w:=qq h
def F263.sh(h:(I vp 175 #[x0] w λa b=>U .eql a (.int .i64 0) b λc d=>Af c (K (.int .i64 0) d) (F263.k3 K x0 d))):I vp 263 #[x0] w K:=BK (A:=F263.ann) (args:=[x0]) (qq h)
namespace F272
def ann:=a1 [(3,[0])]
def code:=cd f272
def BL:=tp f272
variable(K:VK)(y0:wc)(w:wd)
@[irreducible]def k3:=nk ann 11 [(0,y0)] w [1,1] code (BL K)
end F272
def F272.k3.to(h:(AG vp .quo 3 (.tmp 9) (.const (.int .i64 32)) y0 (.int .i64 32) w λa b=>K a b)):F272.k3 K y0 w:=qq h
def F272.sh(h:(U .lss x0 (.int .i64 0) w λa b=>Aa v8 a (λK=>K x0 b) b λc d=>Aa v8 a (U .geq c (.int .i64 2048) d) d λf g=>Ar (vz a) (vz (.bool v7)) (vz f) g λi j=>Af i (K (.int .i64 (-1)) j) (F272.k3 K x0 j))):I vp 272 #[x0] w K:=BK (A:=F272.ann) (args:=[x0]) (qq h)
namespace F284
def ann:=a1 [(3,[0,1])]
def code:=cd f284
def BL:=tp f284
variable(K:VK)(y0 y1:wc)(w:wd)
@[irreducible]def k3:=nk ann 19 [(0,y0),(1,y1)] w [1,1] code (BL K)
end F284
def F284.k3.to(h:(I vp 175 #[y0] w λa b=>AG vp .rem 3 (.tmp 14) (.tmp 16) y1 a b λc d=>U .sub y1 c d λf g=>K f g)):F284.k3 K y0 y1 w:=qq h
def F284.sh(h:(I vp 175 #[x0] w λa b=>U .eql a (.int .i64 0) b λc d=>Aa v8 c (λK=>K x1 d) d λf g=>Aa v8 c (λK=>I vp 272 #[f] g K) g λi j=>Aa v8 c (U .lss i (.int .i64 0) j) j λk m=>Ar (vz c) (vz (.bool v7)) (vz k) m λo p=>Af o (K (.int .i64 (-1)) p) (F284.k3 K x0 x1 p))):I vp 284 #[x0,x1] w K:=BK (A:=F284.ann) (args:=[x0,x1]) (qq h)
namespace F343
def ann:=a1 [(4,[0,1])]
def code:=cd f343
def BL:=tp f343
variable(K:VK)(y0 y1:wc)(w:wd)
@[irreducible]def k4:=nk ann 22 [(0,y0),(1,y1)] w [1,1] code (BL K)
end F343
def F343.k4.to(h:(I vp 346 #[y1] w λa b=>I vp 175 #[y0] b λc d=>AG vp .quo 3 (.tmp 18) (.tmp 20) a c d λf g=>K (.tuple #[f,(.bool v7)]) g)):F343.k4 K y0 y1 w:=qq h
def F343.sh(h:(I vp 284 #[x0,x1] w λa b=>U .lss a (.int .i64 0) b λc d=>Aa v8 c (λK=>K a d) d λf g=>Aa v8 c (λK=>K x1 g) g λi j=>Aa v8 c (U .neq f i j) j λk m=>Ar (vz c) (vz (.bool v7)) (vz k) m λo p=>Af o (K (.tuple #[(.int .i64 0),(.bool v8)]) p) (F343.k4 K x0 x1 p))):I vp 343 #[x0,x1] w K:=BK (A:=F343.ann) (args:=[x0,x1]) (qq h)
namespace F346
def ann:=a1 [(3,[0])]
def code:=cd f346
def BL:=tp f346
variable(K:VK)(y0:wc)(w:wd)
@[irreducible]def k3:=nk ann 8 [(0,y0)] w [1,1] code (BL K)
end F346
def F346.k3.to(h:(AG vp .rem 3 (.tmp 6) (.const (.int .i64 32)) y0 (.int .i64 32) w λa b=>K a b)):F346.k3 K y0 w:=qq h
def F346.sh(h:(I vp 272 #[x0] w λa b=>U .lss a (.int .i64 0) b λc d=>Af c (K (.int .i64 (-1)) d) (F346.k3 K x0 d))):I vp 346 #[x0] w K:=BK (A:=F346.ann) (args:=[x0]) (qq h)
namespace F249
def ann:=a1 [(3,[0,1,2])]
def code:=cd f249
def BL:=tp f249
variable(K:VK)(y0 y1 y2:wc)(w:wd)
@[irreducible]def k3:=nk ann 31 [(0,y0),(1,y1),(2,y2)] w [1,1] code (BL K)
end F249
def F249.k3.to(h:(U .mul y0 (.int .i64 32) w λa b=>I vp 175 #[y1] b λc d=>U .mul y2 c d λf g=>U .add a f g λi j=>K (.tuple #[i,(.bool v7)]) j)):F249.k3 K y0 y1 y2 w:=qq h
def F249.sh(h:(U .lss x0 (.int .i64 0) w λa b=>Aa v8 a (λK=>K x0 b) b λc d=>Aa v8 a (U .geq c (.int .i64 64) d) d λf g=>Ar (vz a) (vz (.bool v7)) (vz f) g λi j=>Aa v8 i (λK=>K x2 j) j λk m=>Aa v8 i (U .lss k (.int .i64 0) m) m λo p=>Ar (vz i) (vz (.bool v7)) (vz o) p λq r=>Aa v8 q (λK=>K x2 r) r λs t=>Aa v8 q (λK=>K x1 t) t λu v=>Aa v8 q (λK=>I vp 263 #[u] v K) v λx y=>Aa v8 q (U .geq s x y) y λz aa=>Ar (vz q) (vz (.bool v7)) (vz z) aa λab ac=>Af ab (K (.tuple #[(.int .i64 0),(.bool v8)]) ac) (F249.k3 K x0 x1 x2 ac))):I vp 249 #[x0,x1,x2] w K:=BK (A:=F249.ann) (args:=[x0,x1,x2]) (qq h)
namespace F177
def ann:=a1 [(3,[0,1])]
def code:=cd f177
def BL:=tp f177
variable(K:VK)(y0 y1:wc)(w:wd)
@[irreducible]def k3:=nk ann 30 [(0,y0),(1,y1)] w [1,1] code (BL K)
end F177
def F177.k3.to(h:(U .mul y0 (.int .i64 32) w λa b=>U .add y0 y1 b λc d=>U .mul c (.int .i64 32) d λf g=>U .sub f (.int .i64 1) g λi j=>K (.tuple #[a,i,(.bool v7)]) j)):F177.k3 K y0 y1 w:=qq h
def F177.sh(h:(U .lss x0 (.int .i64 0) w λa b=>Aa v8 a (λK=>K x1 b) b λc d=>Aa v8 a (U .lss c (.int .i64 1) d) d λf g=>Ar (vz a) (vz (.bool v7)) (vz f) g λi j=>Aa v8 i (λK=>K x0 j) j λk m=>Aa v8 i (U .geq k (.int .i64 64) m) m λo p=>Ar (vz i) (vz (.bool v7)) (vz o) p λq r=>Aa v8 q (λK=>K x1 r) r λs t=>Aa v8 q (λK=>K x0 t) t λu v=>Aa v8 q (U .sub (.int .i64 64) u v) v λx y=>Aa v8 q (U .gtr s x y) y λz aa=>Ar (vz q) (vz (.bool v7)) (vz z) aa λab ac=>Af ab (K (.tuple #[(.int .i64 0),(.int .i64 0),(.bool v8)]) ac) (F177.k3 K x0 x1 ac))):I vp 177 #[x0,x1] w K:=BK (A:=F177.ann) (args:=[x0,x1]) (qq h)
namespace F180
def ann:=a1 [(3,[0,1])]
def code:=cd f180
def BL:=tp f180
variable(K:VK)(y0 y1:wc)(w:wd)
@[irreducible]def k3:=nk ann 24 [(0,y0),(1,y1)] w [1,1] code (BL K)
end F180
def F180.k3.to(h:(U .mul y0 (.int .i64 128) w λa b=>U .add a y1 b λc d=>K (.tuple #[c,(.bool v7)]) d)):F180.k3 K y0 y1 w:=qq h
def F180.sh(h:(U .lss x0 (.int .i64 0) w λa b=>Aa v8 a (λK=>K x0 b) b λc d=>Aa v8 a (U .geq c (.int .i64 1099511627776) d) d λf g=>Ar (vz a) (vz (.bool v7)) (vz f) g λi j=>Aa v8 i (λK=>K x1 j) j λk m=>Aa v8 i (U .lss k (.int .i64 0) m) m λo p=>Ar (vz i) (vz (.bool v7)) (vz o) p λq r=>Aa v8 q (λK=>K x1 r) r λs t=>Aa v8 q (U .gtr s (.int .i64 127) t) t λu v=>Ar (vz q) (vz (.bool v7)) (vz u) v λx y=>Af x (K (.tuple #[(.int .i64 0),(.bool v8)]) y) (F180.k3 K x0 x1 y))):I vp 180 #[x0,x1] w K:=BK (A:=F180.ann) (args:=[x0,x1]) (qq h)
namespace F199
def ann:=a1 [(3,[0])]
def code:=cd f199
def BL:=tp f199
variable(K:VK)(y0:wc)(w:wd)
@[irreducible]def k3:=nk ann 16 [(0,y0)] w [1,1] code (BL K)
end F199
def F199.k3.to(h:(AG vp .quo 2 (.tmp 12) (.const (.int .i64 128)) y0 (.int .i64 128) w λa b=>AG vp .rem 2 (.tmp 14) (.const (.int .i64 128)) y0 (.int .i64 128) b λc d=>K (.tuple #[a,c,(.bool v7)]) d)):F199.k3 K y0 w:=qq h
def F199.sh(h:(U .lss x0 (.int .i64 0) w λa b=>Aa v8 a (λK=>K x0 b) b λc d=>Aa v8 a (λK=>AG vp .quo 2 (.tmp 8) (.const (.int .i64 128)) c (.int .i64 128) d K) d λf g=>Aa v8 a (U .geq f (.int .i64 1099511627776) g) g λi j=>Ar (vz a) (vz (.bool v7)) (vz i) j λk m=>Af k (K (.tuple #[(.int .i64 0),(.int .i64 0),(.bool v8)]) m) (F199.k3 K x0 m))):I vp 199 #[x0] w K:=BK (A:=F199.ann) (args:=[x0]) (qq h)
def F113.sh(h:(I vp 66 #[x0,(.int .i64 0),(.int .i64 9)] w λa b=>Am vp (Instr.makeMap 245 v6) b λc d=>Am vp (Instr.build 247 #[(0,a),(1,c)]) d λf g=>Aw (.cells (wc.cells f) 247) g λi j=>K i j)):I vp 113 #[x0] w K:=BK (A:=A0) (args:=[x0]) (qq h)
namespace F124
def ann:=a1 [(3,[0,1,2,3]),(6,[0,1,2,3])]
def code:=cd f124
def BL:=tp f124
variable(K:VK)(y0 y1 y2 y3:wc)(w:wd)
def k3:=nk ann 61 [(0,y0),(1,y1),(2,y2),(3,y3)] w [1,1] code (BL K)
def k6:=nk ann 61 [(0,y0),(1,y1),(2,y2),(3,y3)] w [1,1,1] code (BL K)
attribute [irreducible] k3 k6
end F124
def F124.k3.to(h:(I vp 185 #[y0,y3] w λa b=>Av 0 a b λc d=>Av 1 a d λf g=>U .geq c (.int .i64 0) g λi j=>Af i (K (.bool v8) j) (F124.k6 K y0 y1 y2 y3 j))):F124.k3 K y0 y1 y2 y3 w:=qq h
def F124.k6.to(h:(Ag y0 w λa b=>Ab 1 a b λc d=>Ad c d λf g=>Am vp (Instr.build 265 #[(0,y1),(1,y2)]) g λi j=>B0 vp (Instr.mapUpdate 245 f i y3) j λk=>K (.bool v7) k)):F124.k6 K y0 y1 y2 y3 w:=qq h
def F124.sh(h:(AG vp .eql 168 (.tmp 11) (.const (.pointer v6)) x0 (.pointer v6) w λa b=>Aa v8 a (λK=>K x0 b) b λc d=>Aa v8 a (Ag c d) d λf g=>Aa v8 a (Ab 1 f g) g λi j=>Aa v8 a (Ad i j) j λk m=>Aa v8 a (λK=>AG vp .eql 245 (.tmp 17) (.const (.map v6)) k (.map v6) m K) m λo p=>Ar (vz a) (vz (.bool v7)) (vz o) p λq r=>Aa v8 q (λK=>K x1 r) r λs t=>Aa v8 q (U .lss s (.int .i64 0) t) t λu v=>Ar (vz q) (vz (.bool v7)) (vz u) v λx y=>Aa v8 x (λK=>K x1 y) y λz aa=>Aa v8 x (λK=>K x0 aa) aa λab ac=>Aa v8 x (Ag ab ac) ac λad ae=>Aa v8 x (Ab 0 ad ae) ae λaf ag=>Aa v8 x (Ad af ag) ag λah ai=>Aa v8 x (U .geq z ah ai) ai λaj ak=>Ar (vz x) (vz (.bool v7)) (vz aj) ak λal am=>Aa v8 al (λK=>K x2 am) am λan ao=>Aa v8 al (λK=>I vp 175 #[an] ao K) ao λap aq=>Aa v8 al (U .eql ap (.int .i64 0) aq) aq λar au=>Ar (vz al) (vz (.bool v7)) (vz ar) au λav aw=>Aa v8 av (λK=>K x3 aw) aw λax ay=>
 Aa v8 av (U .lss ax (.int .i64 0) ay) ay λaz ba=>Ar (vz av) (vz (.bool v7)) (vz az) ba λbb bc=>Aa v8 bb (λK=>K x3 bc) bc λbd be=>Aa v8 bb (U .geq bd (.int .i64 64) be) be λbf bg=>Ar (vz bb) (vz (.bool v7)) (vz bf) bg λbh bi=>Af bh (K (.bool v8) bi) (F124.k3 K x0 x1 x2 x3 bi))):I vp 124 #[x0,x1,x2,x3] w K:=BK (A:=F124.ann) (args:=[x0,x1,x2,x3]) (qq h)
namespace F184
def ann:=a1 [(3,[0,1,2]),(6,[])]
def code:=cd f184
def BL:=tp f184
variable(K:VK)(y0 y1 y2:wc)(w:wd)
def k3:=nk ann 24 [(0,y0),(1,y1),(2,y2)] w [1,1] code (BL K)
def k6:=nk ann 24 [] w [1,1,1] code (BL K)
attribute [irreducible] k3 k6
end F184
def F184.k3.to(h:(Ag y0 w λa b=>Ab 1 a b λc d=>Ad c d λf g=>Am vp (Instr.build 265 #[(0,y1),(1,y2)]) g λi j=>Am vp (Instr.lookup 245 f i v7) j λk m=>Av 0 k m λo p=>Av 1 k p λq r=>Af q (K o r) (F184.k6 K r))):F184.k3 K y0 y1 y2 w:=qq h
def F184.k6.to(h:(K (.int .i64 (-1)) w)):F184.k6 K w:=qq h
def F184.sh(h:(AG vp .eql 168 (.tmp 9) (.const (.pointer v6)) x0 (.pointer v6) w λa b=>Af a (K (.int .i64 (-1)) b) (F184.k3 K x0 x1 x2 b))):I vp 184 #[x0,x1,x2] w K:=BK (A:=F184.ann) (args:=[x0,x1,x2]) (qq h)
namespace F185
def ann:Cd:=⟨[(3,[0,1]),(5,[1,14]),(8,[])],[(4,[1,14])],[],[(7,(tk [0,2,1,4,3,5] .fin))],v6⟩
def code:=cd f185
def BL:=tp f185
variable(K:VK)(y0 y1 y14:wc)(w:wd)
def k3:=nk ann 27 [(0,y0),(1,y1)] w [1,1] code (BL K)
def k8:=nk ann 27 [] w [1,1,1] code (BL K)
def l4:=nl ann 27 [(1,y1),(14,y14)] w [1,1,0,1,0] code (BL K)
def k5:=nk ann 27 [(1,y1),(14,y14)] w [1,1,0,1,0,0,1,1] code (BL K)
attribute [irreducible] k3 k8 l4 k5
end F185
def F185.k3.to(h:(Ag y0 w λa b=>Ab 1 a b λc d=>Ad c d λf g=>Am vp (Instr.range 245 f) g λi j=>F185.l4 K y1 i j)):F185.k3 K y0 y1 w:=qq h
def F185.k8.to(h:(K (.tuple #[(.int .i64 (-1)),(.int .i64 0)]) w)):F185.k8 K w:=qq h
def F185.l4.to(h:(Am vp (Instr.next y14 v8 0) w λa b=>Av 0 a b λc d=>Af c (F185.k5 K y1 y14 d) (F185.k8 K d))):F185.l4 K y1 y14 w:=by unfold F185.l4 nl;exact BW (qq h)
def F185.k5.to(h:(Am vp (Instr.entry y14) w λa b=>Av 0 a b λc d=>Av 1 a d λf g=>Aw (.cells #[.int .i64 0,.int .i64 0] 265) g λi j=>Aj 2 i c j λk=>U .eql f y1 k λm o=>Af m (A4 o λS p=>Ab 0 i p λq r=>Ab 1 i r λs t=>Al S q t λu v=>Al S s v λx y=>K (.tuple #[u,x]) y) (F185.l4 K y1 y14 o))):F185.k5 K y1 y14 w:=qq h
def F185.sh(h:(AG vp .eql 168 (.tmp 8) (.const (.pointer v6)) x0 (.pointer v6) w λa b=>Af a (K (.tuple #[(.int .i64 (-1)),(.int .i64 0)]) b) (F185.k3 K x0 x1 b))):I vp 185 #[x0,x1] w K:=BK (A:=F185.ann) (args:=[x0,x1]) (qq h)
namespace F211
def ann:Cd:=⟨[(3,[0,1]),(6,[0,1,5,6]),(7,[0,1,5,6]),(11,[5])],[(5,[0,1,5,6])],[],[],v6⟩
def code:=cd f211
def BL:=tp f211
variable(K:VK)(y0 y1 y5 y6:wc)(w:wd)
def k3:=nk ann 35 [(0,y0),(1,y1)] w [1,1] code (BL K)
def k11:=nk ann 35 [(5,y5)] w [1,1,1,1] code (BL K)
def l5:=nl ann 35 [(0,y0),(1,y1),(5,y5),(6,y6)] w [1,1,1,0,1,0] code (BL K)
def k7:=nk ann 35 [(0,y0),(1,y1),(5,y5),(6,y6)] w [1,1,1,0,1,0,0,1] code (BL K)
def k6:=nk ann 35 [(0,y0),(1,y1),(5,y5),(6,y6)] w [1,1,1,0,1,0,0,1,1] code (BL K)
attribute [irreducible] k3 k11 l5 k7 k6
end F211
def F211.k3.to(h:(F211.l5 K y0 y1 (.slice v6 0 0) (.int .i64 1) w)):F211.k3 K y0 y1 w:=qq h
def F211.k11.to(h:(I vp 262 #[y5] w λa b=>K y5 b)):F211.k11 K y5 w:=qq h
def F211.l5.to(h:(I vp 175 #[y6] w λa b=>U .gtr a (.int .i64 0) b λc d=>Af c (F211.k7 K y0 y1 y5 y6 d) (F211.k11 K y5 d))):F211.l5 K y0 y1 y5 y6 w:=by unfold F211.l5 nl;exact BW (qq h)
def F211.k7.to(h:(I vp 184 #[y0,y1,y6] w λa b=>U .geq a (.int .i64 0) b λc d=>Af c (Am vp (Instr.buildSlice 54 1 #[(0,a)]) d λf g=>Am vp (Builtin.append_ #[54,54] 54 #[y5,f]) g λi j=>Ag y0 j λk m=>Ab 1 k m λo p=>Ad o p λq r=>Am vp (Instr.build 265 #[(0,y1),(1,y6)]) r λs t=>Am vp (Builtin.delete_ #[245,265] 0 #[q,s]) t λ_ u=>F211.k6 K y0 y1 i y6 u) (F211.k6 K y0 y1 y5 y6 d))):F211.k7 K y0 y1 y5 y6 w:=qq h
def F211.k6.to(h:(U .add y6 (.int .i64 1) w λa b=>F211.l5 K y0 y1 y5 a b)):F211.k6 K y0 y1 y5 y6 w:=qq h
def F211.sh(h:(AG vp .eql 168 (.tmp 8) (.const (.pointer v6)) x0 (.pointer v6) w λa b=>Af a (K (.slice v6 0 0) b) (F211.k3 K x0 x1 b))):I vp 211 #[x0,x1] w K:=BK (A:=F211.ann) (args:=[x0,x1]) (qq h)
end
end
section
open Go.RowKit
structure Fr(S:List Nat)(w w':wd):Prop where
 os:w'.os=w.os
 tape:w'.tape=w.tape
 output:w'.output=w.output
 size:w.heap.size<=w'.heap.size
 eq:∀b,b<w.heap.size->b∉S->w'.heap[b]?=w.heap[b]?
def Fr.refl(S:List Nat)(w:wd):Fr S w w:=⟨rfl,rfl,rfl,va _,λ_ _ _=>rfl⟩
def Fr.trans{S:List Nat}{a b c:wd}(h:Fr S a b)(k:Fr S b c):Fr S a c:=
 ⟨k.os.trans h.os,k.tape.trans h.tape,k.output.trans h.output,uw h.size k.size,λi hi hs=>(k.eq i (zA hi h.size) hs).trans (h.eq i hi hs)⟩
def Fr.then{S T:List Nat}{a b c:wd}(h:Fr S a b)(k:Fr T b c)(hT:∀x,x∈T->x∈S∨a.heap.size<=x):Fr S a c:=
 ⟨k.os.trans h.os,k.tape.trans h.tape,k.output.trans h.output,uw h.size k.size,λi hi hs=>(k.eq i (zA hi h.size) (λhx=>(hT i hx).elim hs (λhle=>by omega))).trans (h.eq i hi hs)⟩
def Fr.mono{S T:List Nat}{a b:wd}(h:Fr S a b)(hs:∀x,x∈S->x∈T):Fr T a b:=⟨h.os,h.tape,h.output,h.size,λi hi ht=>h.eq i hi λhx=>ht (hs i hx)⟩
def Fr.w{S:List Nat}{a b:wd}(h:Fr [] a b):Fr S a b:=h.mono (by simp)
def Fr.below{a b:wd}(h:Fr [] a b):Below a.heap.size a b:=⟨h.os,h.tape,h.output,h.size,λi hi=>h.eq i hi (by simp)⟩
def Fr.of_below{a b:wd}(h:Below a.heap.size a b):Fr [] a b:=⟨h.os,h.tape,h.output,h.size,λi hi _=>h.block i hi⟩
def Fr.at_{S:List Nat}{w w':wd}(h:Fr S w w'){b:Nat}{o:Obj}(hb:w.heap[b]?=vz o)(hs:b∉S):w'.heap[b]?=vz o:=
 (h.eq b (wY.1 hb).1 hs).trans hb
def BP{w:wd}{b:Nat}{o:Obj}(hb:w.heap[b]?=vz o):b<w.heap.size:=(wY.1 hb).1
structure Dz(w:wd)(g:Nat)(o:Obj)(w':wd):Prop where
 is:g=w.heap.size
 fr:Fr [] w w'
 at_:w'.heap[g]?=vz o
 sz:w'.heap.size=w.heap.size+1
def Dz.mk'(w:wd)(o:Obj):Dz w w.heap.size o (w.alloc o) where
 is:=rfl
 fr := .of_below ((Below.refl _ w).alloc (va _) o)
 at_:=by show (w.heap.push o)[w.heap.size]?=_;simp
 sz:=by simp
def Dz.ne{w w':wd}{g b:Nat}{o:Obj}(h:Dz w g o w')(hb:b<w.heap.size):b≠g:=by have:=h.is;omega
structure GB(w:wd)(g:Nat)(o:Obj)(w':wd):Prop where
 fr:Fr [g] w w'
 at_:w'.heap[g]?=vz o
 sz:w'.heap.size=w.heap.size
def Fr.drew(w:wd):Fr [] w { w with drawn:=w.drawn+1 }:=⟨rfl,rfl,rfl,va _,λ_ _ _=>rfl⟩
def add_mk(g o n:Nat):(⟨g,o,v6⟩:Addr).add n=⟨g,o+n,v6⟩:=by unfold Addr.add;split<;>simp_all
def EW{w:wd}{g o:Nat}{cs:Array wc}{e:TypeId}{fz:Nat × Nat}(h:w.heap[g]?=vz (.cells cs e fz)):w.cell? ⟨g,o,v6⟩=cs[o]?:=by simp[wd.cell?,h]
def LI{w:wd}{g o:Nat}{cs:Array wc}{e:TypeId}(h:w.heap[g]?=vz (.cells cs e (0,0))):w.frozen? ⟨g,o,v6⟩=v8:=by simp[wd.frozen?,h]
theorem It{w:wd}{g:Nat}{cs:Array wc}{e:TypeId}{fz:Nat × Nat}(h:w.heap[g]?=vz (.cells cs e fz)):∀(n o i:Nat),o+i+n<=cs.size->Fx w ⟨g,o,v6⟩ i n=vz ((cs.toList.drop (o+i)).take n)
 | 0,o,i,hn=>by simp[Fx]
 | n+1,o,i,hn=>by
  have ih:=It h n o (i+1) (by omega);have hlt:o+i<cs.size:=by omega
  simp only[Fx,add_mk,EW h,ih,xE hlt];have hd:cs.toList.drop (o+i)=cs[o+i]::cs.toList.drop (o+(i+1)):=by rw[show o+(i+1)=o+i+1 by omega];have:=xG (l:=cs.toList) (i:=o+i) (by simpa using hlt);simpa using this
  rw[hd];simp
def CD(cs:List wc)(o:Nat)(vs:List wc):List wc:=cs.take o++vs++cs.drop (o+vs.length)
def JM{w:wd}{g o:Nat}{cs:Array wc}{e:TypeId}{fz:Nat × Nat}(h:w.heap[g]?=vz (.cells cs e fz))(v:wc):
  GB w g (.cells (cs.setIfInBounds o v) e fz) (w.setCell ⟨g,o,v6⟩ v):=by
 refine⟨⟨rfl,rfl,rfl,by simp[wd.setCell],λb _ hb=>?_⟩,?_,by simp[wd.setCell]⟩
 ·simp only[yZ]at hb;exact Below.heap_setCell w ⟨g,o,v6⟩ v b hb
 ·simp[wd.setCell,yA,h]
def GB.trans{w w1 w2:wd}{g:Nat}{o1 o2:Obj}(h:GB w g o1 w1)(k:GB w1 g o2 w2):GB w g o2 w2:=
 ⟨h.fr.trans k.fr,k.at_,k.sz.trans h.sz⟩
section
variable{P:we}{w:wd}{K:VK}
def Ay{o:Obj}(h:∀g w',Dz w g o w'->K (.pointer (vz ⟨g,0,v6⟩)) w'):Aw o w K:=h _ _ (Dz.mk' w o)
def Ac{g o:Nat}{cs:Array wc}{e:TypeId}{fz:Nat × Nat}{v:wc}(hb:w.heap[g]?=vz (.cells cs e fz))(hv:cs[o]?=vz v)(h:K v w):Ad (.pointer (vz ⟨g,o,v6⟩)) w K:=
 ⟨_,v,rfl,by rw[EW hb];exact hv,h⟩
def AY{n g o:Nat}{cs:Array wc}{e:TypeId}{fz:Nat × Nat}{vs:List wc}(hb:w.heap[g]?=vz (.cells cs e fz))(hn:o+n<=cs.size)(hv:(cs.toList.drop o).take n=vs)(h:K (.agg vs.toArray) w):Ak n (.pointer (vz ⟨g,o,v6⟩)) w K:=
 ⟨_,vs,rfl,by rw[It hb n o 0 (by omega)];simpa using hv,h⟩
def A5{n g:Nat}{cs:Array wc}{e:TypeId}{fz:Nat × Nat}(hb:w.heap[g]?=vz (.cells cs e fz))(hn:cs.size=n)(h:K (.agg cs) w):Ak n (.pointer (vz ⟨g,0,v6⟩)) w K:=
 AY hb (by omega) (vs:=cs.toList) (by subst hn;rw[List.drop_zero, <-Array.length_toList,d7]) (by simpa using h)
def Aq{S:wd->Prop}{g o:Nat}{v:wc}(hS:∀w',S w'->∃cs e fz,w'.heap[g]?=vz (.cells cs e fz)/\cs[o]?=vz v)(h:K v w):Al S (.pointer (vz ⟨g,o,v6⟩)) w K:=
 ⟨_,v,rfl,λw' hw=>by obtain⟨cs,e,fz,hb,hv⟩:=hS w' hw;rw[EW hb];exact hv,h⟩
def AR{S:wd->Prop}{n g o:Nat}{vs:List wc}(hS:∀w',S w'->∃cs e fz,w'.heap[g]?=vz (.cells cs e fz)/\o+n<=cs.size/\(cs.toList.drop o).take n=vs)(h:K (.agg vs.toArray) w):AN S n (.pointer (vz ⟨g,o,v6⟩)) w K:=
 ⟨_,vs,rfl,λw' hw=>by obtain⟨cs,e,fz,hb,hn,hv⟩:=hS w' hw;rw[It hb n o 0 (by omega)];simpa using hv,h⟩
theorem KQ{g:Nat}{e:TypeId}{K:wd->Prop}:∀(vs:List wc) (o i:Nat) (cs:Array wc) (w:wd),w.heap[g]?=vz (.cells cs e (0,0))->(∀v∈vs,v.oneCell'=v7)->o+i+vs.length<=cs.size->
  (∀w',GB w g (.cells (CD cs.toList (o+i) vs).toArray e (0,0)) w'->K w')->Fy vs i ⟨g,o,v6⟩ w K
 | [],o,i,cs,w,hb,_,_,h=>by
  refine h w ⟨Fr.refl _ _,?_,rfl⟩;simp only[CD,List.append_nil,i7,uv,yH];exact hb
 | v::vs,o,i,cs,w,hb,hv,hn,h=>by
  simp only[zY]at hn;have hlt:o+i<cs.size:=by omega
  refine⟨hv v (by simp),⟨cs[o+i],?_⟩,?_,?_⟩
  ·rw[add_mk,EW hb,xE hlt]
  ·rw[add_mk];exact LI hb
  ·rw[add_mk];have hu:=JM (o:=o+i) hb v;refine KQ vs o (i+1) _ _ hu.at_ (λu hu=>hv u (by simp[hu])) (by simp;omega) λw' hw=>h w' ?_;have:=hu.trans hw;have he:CD (cs.setIfInBounds (o+i) v).toList (o+(i+1)) vs=CD cs.toList (o+i) (v::vs):=by
    simp only[CD,Array.toList_setIfInBounds,zY];rw[show o+(i+1)=o+i+1 by omega,List.take_set,List.drop_set,vn (by omega),zL];rw[xO (by simpa using hlt)];simp only[zB];rw[List.set_append];simp only[b7,Array.length_toList];rw[vm (by omega)];have:o+i-min (o+i) cs.size=0:=by omega
    rw[this];simp[uo,Nat.add_comm 1]
   rw[he]at this;exact this
def Bq{n g o:Nat}{e:TypeId}{cs:Array wc}{x:wc}{K:wd->Prop}(hb:w.heap[g]?=vz (.cells cs e (0,0)))(hx:x.cells.size=n)(h1:∀v∈x.cells.toList,v.oneCell'=v7)(hn:o+n<=cs.size)(h:∀w',GB w g (.cells (CD cs.toList o x.cells.toList).toArray e (0,0)) w'->K w'):Aj n (.pointer (vz ⟨g,o,v6⟩)) x w K:=
 ⟨_,rfl,hx,KQ _ o 0 cs w hb h1 (by simp;omega) (by simpa using h)⟩
def AM{g o:Nat}{e:TypeId}{cs:Array wc}{x:wc}{K:wd->Prop}(hb:w.heap[g]?=vz (.cells cs e (0,0)))(hx:x.cells = #[x])(h1:x.oneCell'=v7)(hn:o<cs.size)(h:∀w',GB w g (.cells (cs.setIfInBounds o x) e (0,0)) w'->K w'):Aj 1 (.pointer (vz ⟨g,o,v6⟩)) x w K:=by refine⟨_,rfl,by simp[hx],?_⟩;rw[hx];refine⟨h1,⟨cs[o],by rw[add_mk,uv,EW hb,xE hn]⟩,by rw[add_mk];exact LI hb,?_⟩;rw[add_mk,uv];exact h _ (JM hb x)
def AB{n g:Nat}{e:TypeId}{cs:Array wc}{x:wc}{K:wd->Prop}(hb:w.heap[g]?=vz (.cells cs e (0,0)))(hx:x.cells.size=n)(h1:∀v∈x.cells.toList,v.oneCell'=v7)(hn:cs.size=n)(h:∀w',GB w g (.cells x.cells e (0,0)) w'->K w'):Aj n (.pointer (vz ⟨g,0,v6⟩)) x w K:=by
 refine Bq hb hx h1 (by omega) λw' hw=>h w' ?_;have:(CD cs.toList 0 x.cells.toList).toArray=x.cells:=by simp only[CD,List.take_zero,j5,uy];rw[xV (by simp;omega)];simp
 rwa [this]at hw
def A8{F:(wd->Prop)->wd->Prop}(S:wd->Prop)(h:∀w',Fr [] w w'->w'.heap=w.heap->S w'/\F S w'):A4 w F:=
 ⟨S,(h _ (Fr.drew w) rfl).1,(h _ (Fr.drew w) rfl).2⟩
def A7{s:Sem wc}{v:wc}{w':wd}(h:s.run P w=.ok v w')(hk:K v w'):Am P s w K:=⟨v,w',h,hk⟩
end
section
variable{P:we}{w:wd}{K:VK}
def B7(b:Bool)(A B:Prop):Af (.bool b) A B↔(b=v7->A)/\(b=v8->B):=by
 constructor
 ·rintro⟨t,ht,h⟩;cases ht;exact h
 ·intro h;exact⟨b,rfl,h⟩
def Ai(A B:Prop):Af (.bool v7) A B↔A:=by simp[B7]
def Ae(A B:Prop):Af (.bool v8) A B↔B:=by simp[B7]
def Az(a b:wc):Ar (vz (.bool v7)) (vz a) (vz b) w K↔K a w:=by
 constructor
 ·rintro⟨t,ht,v,hv,h⟩;cases ht;cases hv;exact h
 ·intro h;exact⟨v7,rfl,a,rfl,h⟩
def Ax(a b:wc):Ar (vz (.bool v8)) (vz a) (vz b) w K↔K b w:=by
 constructor
 ·rintro⟨t,ht,v,hv,h⟩;cases ht;cases hv;exact h
 ·intro h;exact⟨v8,rfl,b,rfl,h⟩
def A3(b:Bool):AE (.bool b) w K↔K (.bool !b) w:=by
 constructor
 ·rintro⟨t,ht,h⟩;cases ht;exact h
 ·intro h;exact⟨b,rfl,h⟩
def Ah(off g o:Nat):Ab off (.pointer (vz ⟨g,o,v6⟩)) w K↔K (.pointer (vz ⟨g,o+off,v6⟩)) w:=by
 constructor
 ·rintro⟨a,ha,h⟩;cases ha;rwa [add_mk]at h
 ·intro h;exact⟨_,rfl,by rwa [add_mk]⟩
def An(a:Addr):Ag (.pointer (vz a)) w K↔K (.pointer (vz a)) w:=by simp[Ag,KA]
def Bf(op:BinOp)(k:IntKind)(a b:Int):U op (.int k a) (.int k b) w K↔∃v,Fu op k a b=vz v/\K v w:=by
 constructor
 ·rintro⟨k',a',b',v,h1,h2,h3,h⟩;cases h1;cases h2;exact⟨v,h3,h⟩
 ·rintro⟨v,h3,h⟩;exact⟨k,a,b,v,rfl,rfl,h3,h⟩
def AC(k:IntKind)(a b:Int):U .add (.int k a) (.int k b) w K↔K (.int k (k.wrap (a+b))) w:=by simp[Bf,Fu]
def AO(k:IntKind)(a b:Int):U .sub (.int k a) (.int k b) w K↔K (.int k (k.wrap (a-b))) w:=by simp[Bf,Fu]
def AT(k:IntKind)(a b:Int):U .mul (.int k a) (.int k b) w K↔K (.int k (k.wrap (a*b))) w:=by simp[Bf,Fu]
def Ap(k:IntKind)(a b:Int):U .eql (.int k a) (.int k b) w K↔K (.bool (decide (a=b))) w:=by
 have:(a == b)=decide (a=b):=by rw[f9];simp
 simp[Bf,Fu,this]
def AD(k:IntKind)(a b:Int):U .neq (.int k a) (.int k b) w K↔K (.bool (decide (a≠b))) w:=by
 have:(a != b)=decide (a≠b):=by rw[f9];simp
 simp only[Bf,Fu,this,zM,exists_eq_left']
def Au(k:IntKind)(a b:Int):U .lss (.int k a) (.int k b) w K↔K (.bool (decide (a<b))) w:=by simp[Bf,Fu]
def AX(k:IntKind)(a b:Int):U .leq (.int k a) (.int k b) w K↔K (.bool (decide (a<=b))) w:=by simp[Bf,Fu]
def AL(k:IntKind)(a b:Int):U .gtr (.int k a) (.int k b) w K↔K (.bool (decide (a>b))) w:=by simp[Bf,Fu]
def AF(k:IntKind)(a b:Int):U .geq (.int k a) (.int k b) w K↔K (.bool (decide (a≥b))) w:=by simp[Bf,Fu]
def Bk(k k':IntKind)(a:Int):Bh k (.int k' a) w K↔K (.int k (k.wrap a)) w:=by
 constructor
 ·rintro⟨k1,a1,h1,h⟩;cases h1;exact h
 ·intro h;exact⟨k',a,rfl,h⟩
def AW(g:Option Addr)(n c:Nat):AH (.slice g n c) w K↔K (.int .i64 (n:Int)) w:=by
 constructor
 ·rintro⟨g1,n1,c1,h1,h⟩;cases h1;exact h
 ·intro h;exact⟨g,n,c,rfl,h⟩
def Br(i:Nat)(vs:Array wc):Av i (.tuple vs) w K↔∃v,vs[i]?=vz v/\K v w:=by
 constructor
 ·rintro⟨vs',v,h1,h2,h⟩;cases h1;exact⟨v,h2,h⟩
 ·rintro⟨v,h2,h⟩;exact⟨vs,v,rfl,h2,h⟩
def A9(a b:wc):Av 0 (.tuple #[a,b]) w K↔K a w:=by simp[Br]
def AA(a b:wc):Av 1 (.tuple #[a,b]) w K↔K b w:=by simp[Br]
def AZ(a b c:wc):Av 0 (.tuple #[a,b,c]) w K↔K a w:=by simp[Br]
def Ba(a b c:wc):Av 1 (.tuple #[a,b,c]) w K↔K b w:=by simp[Br]
def Bb(a b c:wc):Av 2 (.tuple #[a,b,c]) w K↔K c w:=by simp[Br]
def Bo(n:Nat)(g o len cap:Nat)(k:IntKind)(j:Int):A6 n (.slice (vz ⟨g,o,v6⟩) len cap) (.int k j) w K↔(0<=j/\j<(len:Int))/\K (.pointer (vz ⟨g,o+j.toNat*n,v6⟩)) w:=by
 constructor
 ·rintro⟨g1,l1,c1,k1,j1,h1,h2,h3,h4,h⟩;cases h1;cases h2;rw[Go.Proofs.QV.add_mk]at h;exact⟨⟨h3,h4⟩,h⟩
 ·rintro⟨⟨h3,h4⟩,h⟩;exact⟨_,_,_,_,_,rfl,rfl,h3,h4,by rwa [Go.Proofs.QV.add_mk]⟩
def Ao(want:Bool)(F:VK->Prop):Aa want (.bool want) F w K↔F K:=by simp[Aa,Bv]
def AJ(F:VK->Prop):Aa v7 (.bool v8) F w K↔K undef w:=by simp[Aa,Bv]
def AI(F:VK->Prop):Aa v8 (.bool v7) F w K↔K undef w:=by simp[Aa,Bv]
def AQ(want:Bool)(F:VK->Prop):Aa want undef F w K↔K undef w:=by simp[Aa,Bv,undef]
end
def BN{n:Int}(h : -9223372036854775808<=n/\n<=9223372036854775807):IntKind.i64.wrap n=n:=by unfold IntKind.wrap IntKind.bits IntKind.signed;simp;omega
def zv:=ve @Ai (ve @Ae (ve @Az (ve @Ax (ve @A3 (ve @Ah (ve @An (ve @AC (ve @AO (ve @AT (ve @Ap (ve @AD (ve @Au (ve @AX (ve @AL (ve @AF (ve @Bk (ve @AW (ve @A9 (ve @AA (ve @AZ (ve @Ba (ve @Bb (ve @Ao (ve @AJ (ve @AI (ve @AQ (ve @Bool.not_true (ve @Bool.not_false (ve @Nat.zero_add (ve @decide_true @decide_false))))))))))))))))))))))))))))))
end
section
variable{P:we}{w:wd}{t:TypeId}
def Jt{x y:Operand}{a b:wc}{r:Bool}(hg:(eqGuard .eql t x y a b).run P w=.ok () w)(hb:binOp .eql t a b=(do pure (.bool (<-Op.equal t a b))))(he:(Op.equalIn (9999+1) t a b).run P w=.ok r w):
  (do eqGuard .eql t x y a b;binOp .eql t a b:Sem wc).run P w=.ok (.bool r) w:=by have he':(Op.equal t a b).run P w=.ok r w:=he;rw[hb];simp only[u1,hg,zN,he',u2]
def O3{x y:Operand}{a b:wc}{r:Bool}(hg:(eqGuard .neq t x y a b).run P w=.ok () w)(hb:binOp .neq t a b=(do pure (.bool (!(<-Op.equal t a b)))))(he:(Op.equalIn (9999+1) t a b).run P w=.ok r w):
  (do eqGuard .neq t x y a b;binOp .neq t a b:Sem wc).run P w=.ok (.bool (!r)) w:=by have he':(Op.equal t a b).run P w=.ok r w:=he;rw[hb];simp only[u1,hg,zN,he',u2]
def I5(d:Nat)(a:Addr){e:TypeId}(hu:P.underlying t=vz (.pointer e)):(Op.equalIn (d+1) t (.pointer (vz a)) (.pointer v6)).run P w=.ok (v8) w:=by simp[Op.equalIn,underlying,hu]
def Cj(x y:Operand)(a:Addr){e:TypeId}(hu:P.underlying t=vz (.pointer e)):(do eqGuard .eql t x y (.pointer (vz a)) (.pointer v6);binOp .eql t (.pointer (vz a)) (.pointer v6):Sem wc).run P w=.ok (.bool (v8)) w:=
 Jt (by simp[eqGuard]) rfl (I5 9999 a hu)
def CN(x y:Operand)(a:Addr){e:TypeId}(hu:P.underlying t=vz (.pointer e)):(do eqGuard .neq t x y (.pointer (vz a)) (.pointer v6);binOp .neq t (.pointer (vz a)) (.pointer v6):Sem wc).run P w=.ok (.bool (v7)) w:=
 O3 (by simp[eqGuard]) rfl (I5 9999 a hu)
def K0(d:Nat)(a:Option Addr)(n c:Nat){e:TypeId}(hu:P.underlying t=vz (.slice e)):(Op.equalIn (d+1) t (.slice a n c) (.slice v6 0 0)).run P w=.ok (a.isNone) w:=by cases a<;>simp[Op.equalIn,underlying,hu]
def Hd(x y:Operand)(a:Option Addr)(n c:Nat){e:TypeId}(hu:P.underlying t=vz (.slice e)):(do eqGuard .eql t x y (.slice a n c) (.slice v6 0 0);binOp .eql t (.slice a n c) (.slice v6 0 0):Sem wc).run P w=.ok (.bool (a.isNone)) w:=
 Jt (by simp[eqGuard]) rfl (K0 9999 a n c hu)
def Nc(at_:Array TypeId)(ty:TypeId)(k:IntKind)(a b:Int):(Builtin.min_ at_ ty #[.int k a,.int k b]).run P w=.ok (.int k (min a b)) w:=by
 have:(if b<a then b else a)=min a b:=by omega
 simp[Builtin.min_,Builtin.min2,this]
def JZ(at_:Array TypeId)(ty:TypeId)(k:IntKind)(a b:Int):(Builtin.max_ at_ ty #[.int k a,.int k b]).run P w=.ok (.int k (max a b)) w:=by
 have:(if a<b then b else a)=max a b:=by omega
 simp[Builtin.max_,Builtin.max2,this]
def G2(at_:Array TypeId)(ty:TypeId)(c:Array Bool)(k:IntKind)(a b:Int):(builtin .min at_ ty c #[.int k a,.int k b]).run P w=.ok (.value (.int k (min a b))) w:=by simp only[builtin,u1,Nc];rfl
def IX(at_:Array TypeId)(ty:TypeId)(c:Array Bool)(k:IntKind)(a b:Int):(builtin .max at_ ty c #[.int k a,.int k b]).run P w=.ok (.value (.int k (max a b))) w:=by simp only[builtin,u1,JZ];rfl
end
section
open Go.RowKit Go.ChangeShapes Go.WideShapes Go.ChangeAt
def Cq(w:wd)(v:wc)(sz:Nat)(xs:List (List wc)):Prop:=
 ∃A c,v=.slice A xs.length c/\xs.length<=c/\c<=maxLen/\(xs≠[]->∃g o cs e fz,A=vz ⟨g,o,v6⟩/\w.heap[g]?=vz (.cells cs e fz)/\∀i x,xs[i]?=vz x->x.length=sz/\∀j,j<sz->cs[o+(i*sz+j)]?=x[j]?)
def Cq.keep{w w':wd}{v:wc}{sz:Nat}{xs:List (List wc)}(h:Cq w v sz xs)(hf:Fr [] w w'):Cq w' v sz xs:=by obtain⟨A,c,rfl,h1,h2,h3⟩:=h;refine⟨A,c,rfl,h1,h2,λhx=>?_⟩;obtain⟨g,o,cs,e,fz,rfl,hg,hc⟩:=h3 hx;exact⟨g,o,cs,e,fz,rfl,hf.at_ hg (by simp),hc⟩
def Cq.len_c{P:we}{K:VK}{w:wd}{v:wc}{sz:Nat}{xs:List (List wc)}(h:Cq w v sz xs):∃A c,v=.slice A xs.length c/\xs.length<=c:=by obtain⟨A,c,rfl,h1,_⟩:=h;exact⟨A,c,rfl,h1⟩
def Cq.le{w:wd}{v:wc}{sz:Nat}{xs:List (List wc)}(h:Cq w v sz xs):xs.length<=9223372036854775807:=by obtain⟨A,c,rfl,h1,h2,_⟩:=h;unfold maxLen at h2;omega
def AK{K:VK}{w w1:wd}{v:wc}{sz:Nat}{xs:List (List wc)}(h:Cq w1 v sz xs)(hk:K (.int .i64 (xs.length:Int)) w):AH v w K:=by obtain⟨A,c,rfl,_⟩:=h;simpa only[AW] using hk
def AS{K:VK}{w:wd}{v:wc}{sz:Nat}{xs:List (List wc)}{k:IntKind}{i:Int}(h:Cq w v sz xs){x:List wc}(h0:0<=i)(hx:xs[i.toNat]?=vz x)(hk:∀g o cs e fz,w.heap[g]?=vz (.cells cs e fz)->x.length=sz->(∀j,j<sz->cs[o+j]?=x[j]?)->K (.pointer (vz ⟨g,o,v6⟩)) w):A6 sz v (.int k i) w K:=by obtain⟨A,c,rfl,h1,h2,h3⟩:=h;have hlt:i.toNat<xs.length:=(xI.1 hx).1;obtain⟨g,o,cs,e,fz,rfl,hg,hc⟩:=h3 (by intro he;rw[he]at hlt;simp at hlt);obtain⟨hl,hj⟩:=hc _ _ hx;rw[Bo];exact⟨⟨h0,by omega⟩,hk g _ cs e fz hg hl λj hjs=>by rw[uo];exact hj j hjs⟩
def Cq.take{w:wd}{A:Option Addr}{n c sz:Nat}{xs:List (List wc)}(h:Cq w (.slice A n c) sz xs)(m:Nat)(hm:m<=n):Cq w (.slice A m c) sz (xs.take m):=by
 obtain⟨A',c',he,h1,h2,h3⟩:=h;simp only[zO]at he;obtain⟨rfl,rfl,rfl⟩:=he;have hl:(xs.take m).length=m:=by rw[b7];omega
 refine⟨A,c,by rw[hl],by rw[hl];omega,h2,λhx=>?_⟩;obtain⟨g,o,cs,e,fz,rfl,hg,hc⟩:=h3 (by intro e;rw[e]at hx;simp at hx);refine⟨g,o,cs,e,fz,rfl,hg,λi x hi=>hc i x ?_⟩;rw[yX]at hi;split at hi
 ·exact hi
 ·cases hi
inductive CK where
 | int (k:IntKind)
 | bool
def CK.ok:CK->wc->Prop
 | .int k,v=>∃n,v=.int k n/\(Lit.int k n).wf=v7
 | .bool,v=>∃b,v=.bool b
def Ju(kd:TypeId->Option (List CK))(sz:TypeId->Nat):List Field->Nat->Option (List CK)
 | [],_=>vz []
 | f::fs,off=>cond (Nat.beq f.offset off) (match kd f.type with
  | some ks=>cond (Nat.beq (sz f.type) ks.length) (match Ju kd sz fs (off+ks.length) with
   | some r=>some (ks++r)
   | none=>none) none
  | none=>none) none
def Ie(P:we):Nat->TypeId->Option (List CK)
 | 0,_=>v6
 | d+1,t=>match P.underlying t with
  | some (.int k)=>some [.int k]
  | some .bool=>some [.bool]
  | some (.struct fs)=>match Ju (Ie P d) P.cellsOf fs.toList 0 with
   | some ks=>cond (Nat.beq (P.cellsOf t) ks.length) (some ks) v6
   | none=>none
  | _=>v6
def Dh:List CK->List wc->Prop
 | [],[]=>True
 | k::ks,v::vs=>k.ok v/\Dh ks vs
 | _,_=>False
theorem HR:∀ {ks ks':List CK} {vs vs':List wc},Dh ks vs->Dh ks' vs'->Dh (ks++ks') (vs++vs')
 | [],_,[],_,_,h=>h
 | k::ks,_,v::vs,_,h,h'=>⟨h.1,HR h.2 h'⟩
 | [],_,_::_,_,h,_=>h.elim
 | _::_,_,[],_,h,_=>h.elim
theorem Ga:∀ {ks:List CK} {vs:List wc},Dh ks vs->vs.length=ks.length
 | [],[],_=>rfl
 | k::ks,v::vs,h=>by simp[Ga h.2]
 | [],_::_,h=>h.elim
 | _::_,[],h=>h.elim
section
variable{H:Type}{enc:TypeId × wc->H}{P:we}{w:wd}{base:Nat}{spare:Nat->Bool}{held:Bool}
def PE{t:TypeId}{fuel:Nat}{cs:List wc}{x:DataW H × List MemPlace}(ht:P.underlying t=vz .bool)(h:DataW.trod enc P w base spare held fuel t cs=vz x):∃b,cs=[.bool b]:=by
 cases fuel with
 | zero=>simp[DataW.trod]at h
 | succ n=>
  unfold DataW.trod at h;rw[ht]at h;split at h<;>simp_all
theorem MM{n:Nat}{kd:TypeId->Option (List CK)}{cs:List wc}(hkd:∀t ks cs' x,kd t=vz ks->DataW.trod enc P w base spare held n t cs'=vz x->Dh ks cs'):
  ∀(fs:List Field) (off:Nat) (ks:List CK),Ju kd P.cellsOf fs off=vz ks->off+ks.length=cs.length->(∀f∈fs,∃x,DataW.trod enc P w base spare held n f.type ((cs.drop f.offset).take (P.cellsOf f.type))=vz x)->Dh ks (cs.drop off)
 | [],off,ks,hf,hl,_=>by
  simp only[Ju,zM]at hf;subst hf;simp only[i7,uv]at hl;rw[xV (by omega)]
  trivial
 | f::fs,off,ks,hf,hl,ht=>by
  simp only[Ju]at hf;cases h1:Nat.beq f.offset off with
  | false=>rw[h1]at hf;cases hf
  | true=>
   rw[h1]at hf;simp only[vf]at hf;have e1:f.offset=off:=yI h1;cases hk:kd f.type with
   | none=>rw[hk]at hf;cases hf
   | some k1=>
    rw[hk]at hf;simp only at hf;cases h2:Nat.beq (P.cellsOf f.type) k1.length with
    | false=>rw[h2]at hf;cases hf
    | true=>
     rw[h2]at hf;simp only[vf]at hf;have e2:P.cellsOf f.type=k1.length:=yI h2;cases hr:Ju kd P.cellsOf fs (off+k1.length) with
     | none=>rw[hr]at hf;cases hf
     | some r=>
      rw[hr]at hf;simp only[zM]at hf;subst hf;rw[yY]at hl;obtain⟨x,hx⟩:=ht f (by simp);have a1:=hkd _ _ _ _ hk hx;have a2:=MM hkd fs (off+k1.length) r hr (by omega) λf' hf'=>ht f' (by simp[hf']);rw[e1,e2]at a1;have:=HR a1 a2;rw[<-List.drop_drop,yH]at this;exact this
theorem Jj:∀(d:Nat) {t:TypeId} {ks:List CK} {fuel:Nat} {cs:List wc} {x:DataW H × List MemPlace},Ie P d t=vz ks->DataW.trod enc P w base spare held fuel t cs=vz x->Dh ks cs
 | 0,_,_,_,_,_,hk,_=>by simp[Ie]at hk
 | d+1,t,ks,fuel,cs,x,hk,h=>by
  simp only[Ie]at hk;split at hk
  ·rename_i k hu;simp only[zM]at hk;subst hk;obtain⟨n,rfl,_,hw⟩:=DataW.trod_int hu h;exact⟨⟨n,rfl,hw⟩,trivial⟩
  ·rename_i hu;simp only[zM]at hk;subst hk;obtain⟨b,rfl⟩:=PE hu h;exact⟨⟨b,rfl⟩,trivial⟩
  ·rename_i fs hu;split at hk
   ·rename_i ks' hf;cases hb:Nat.beq (P.cellsOf t) ks'.length with
    | false=>rw[hb]at hk;cases hk
    | true=>
     rw[hb]at hk;simp only[vf,zM]at hk;subst hk;obtain⟨xs,n,rfl,rfl,hl,hxl,hx⟩:=DataW.trod_struct hu h;have:=MM (n:=n) (cs:=cs) (λt ks cs' x hk hx=>Jj d hk hx) fs.toList 0 ks' hf (by rw[hl,yI hb];omega) λf hf=>by
      obtain⟨i,hi,rfl⟩:=yS hf;have hi':i<fs.size:=by simpa using hi
      have:=hx i fs[i] (by simp[hi']);simp only[Array.getElem_toList];rw[this,xO (by omega)];exact⟨_,rfl⟩
     simpa using this
   ·cases hk
  ·cases hk
def Rw{t e:TypeId}{d:Nat}{ks:List CK}{v:wc}{dd:DataW H}{ps:List MemPlace}(ht:P.underlying t=vz (.slice e))(hk:Ie P d e=vz ks)(hc:P.cellsOf e=ks.length)(hpos:0<ks.length)(h:DataW.Trod enc P w base spare held t v dd ps)(hv:v.cells.toList=[v]):∃xs,Cq w v ks.length xs/\∀x∈xs,Dh ks x:=by
 obtain⟨fuel,h⟩:=h;rw[hv]at h;rcases Deep.open_slice ht h with⟨h1,_⟩|⟨a,len,cap,m,n,D,Pl,h1,hb,hl,hm,rfl,_,hx⟩
 ·simp only[List.cons.injEq,and_true]at h1;subst h1;exact⟨[],⟨v6,0,rfl,by simp,by simp[maxLen],λh=>absurd rfl h⟩,by simp⟩
 ·simp only[List.cons.injEq,and_true]at h1;subst h1;have hx':∀i,i<len->∃cs',w.cells? base (a.add (i*P.cellsOf e)) (P.cellsOf e)=vz cs'/\Dh ks cs':=λi hi=>by
   obtain⟨cs',h1,h2⟩:=hx i (by split<;>omega);exact⟨cs',h1,Jj d hk h2⟩
  rw[hc]at hx';obtain⟨X,hX⟩:=Deep.choose_lt (α := List wc) hx';have hlen:((List.range len).map X).length=len:=by simp
  refine⟨(List.range len).map X,⟨vz a,cap,by rw[hlen],by rw[hlen];exact hl,hm,λhne=>?_⟩,λx hx=>?_⟩
  ·have h0:0<len:=by
    rcases Nat.eq_zero_or_pos len with h0|h0
    ·subst h0;simp at hne
    ·exact h0
   obtain⟨hc0,hok⟩:=hX 0 h0;obtain⟨_,_,hcell⟩:=wd.cells?_some hc0;have hl0:=Ga hok;have h00:=hcell 0 hpos;simp only[Nat.zero_mul]at h00;have ha0:(a.add 0).add 0=a:=by simp[Addr.add]
   rw[ha0,xO (by omega)]at h00;obtain⟨g,o,sp⟩:=a;have hsp:sp=v6:=by
    cases sp with
    | none=>rfl
    | some s=>simp[wd.cell?]at h00;split at h00<;>simp_all
   subst hsp;have hblk:∃cs e fz,w.heap[g]?=vz (.cells cs e fz):=by
    simp only[wd.cell?]at h00;split at h00
    ·rename_i c e' fz hg;exact⟨c,e',fz,hg⟩
    ·cases h00
   obtain⟨cs,e',fz,hg⟩:=hblk;refine⟨g,o,cs,e',fz,rfl,hg,λi x hi=>?_⟩;have hi':i<len:=by have:=(xI.1 hi).1;simpa using this
   simp only[zH,List.getElem?_range hi',j8,zM]at hi;subst hi;obtain⟨hci,hoki⟩:=hX i hi';obtain⟨_,_,hcelli⟩:=wd.cells?_some hci;refine⟨Ga hoki,λj hj=>?_⟩;have:=hcelli j hj;rw[add_mk,add_mk,EW hg]at this;rw[<-this,uo]
  ·obtain⟨i,hi,rfl⟩:=uu.1 hx;exact (hX i (by simpa using hi)).2
end
def Mg{H:Type}{enc:TypeId × wc->H}{P:we}{w:wd}{base b0:Nat}{r:Reach}{spare:Nat->Bool}{held:Bool}{t e:TypeId}{d:Nat}{ks:List CK}{v:wc}{dd:DataW H}{ps:List MemPlace}(ht:P.underlying t=vz (.slice e))(hk:Ie P d e=vz ks)(hc:P.cellsOf e=ks.length)(hpos:0<ks.length)(hv:wc.okWide P w r b0 t v)(h:DataW.Trod enc P w base spare held t v dd ps):
  ∃xs,Cq w v ks.length xs/\∀x∈xs,Dh ks x:=by obtain⟨a,len,cap,rfl⟩:=okWide_slice ht hv;exact Rw ht hk hc hpos h rfl
def KC{H:Type}{enc:TypeId × wc->H}{P:we}{w:wd}{base b0:Nat}{r:Reach}{spare:Nat->Bool}{held:Bool}{t:TypeId}{fs:Array Field}{d:Nat}{ks:List CK}{v:wc}{dd:DataW H}{ps:List MemPlace}(ht:P.underlying t=vz (.struct fs))(hk:Ie P d t=vz ks)(hv:wc.okWide P w r b0 t v)(h:DataW.Trod enc P w base spare held t v dd ps):
  ∃cs,v=.agg cs/\Dh ks cs.toList:=by obtain⟨cs,rfl,_⟩:=okWide_struct ht hv;obtain⟨fuel,h⟩:=h;exact⟨cs,rfl,Jj d hk h⟩
def OB{k1:IntKind}{x:List wc}(h:Dh [.int k1] x):∃n,x=[.int k1 n]/\(Lit.int k1 n).wf=v7:=by
 match x with
 | []=>exact h.elim
 | _::_::_=>exact h.2.elim
 | [a]=>
  obtain⟨⟨n,ha,h1⟩,_⟩:=h;exact⟨n,by rw[ha],h1⟩
theorem Gm{H:Type}{enc:TypeId × wc->H}{P:we}{w:wd}{base:Nat}{spare:Nat->Bool}{held:Bool}:∀(ts:List TypeId) (vs:List wc) (ds:List (DataW H)) (ps:List MemPlace),
  DataW.TrodAll enc P w base spare held ts vs ds ps->vs.length=ts.length/\ds.length=ts.length
 | [],vs,ds,ps,h=>by obtain⟨rfl,rfl,_⟩:=trodAll_nil h;exact⟨rfl,rfl⟩
 | t::ts,vs,ds,ps,h=>by
  obtain⟨v,vs',d,ds',p,q,rfl,rfl,_,_,h'⟩:=trodAll_cons h;have:=Gm ts vs' ds' q h';simp[this]
theorem IB{H:Type}{enc:TypeId × wc->H}{P:we}{W W':wd}(hl:laidOutB P=v7)(hb:Below W.heap.size W W'):∀(ts:List TypeId) (vs:List wc) (ds:List (DataW H)) (ps:List MemPlace),
  (∀t∈ts,P.readableRec t=v7/\t<P.types.size)->DataW.TrodAll enc P W 0 (λ_=>v7) v7 ts vs ds ps->(∀x∈ps,x.block<W.heap.size)->
  DataW.TrodAll enc P W' 0 (λb=>decide (b<W.heap.size)) v7 ts vs ds ps
 | [],vs,ds,ps,_,h,_=>by obtain⟨rfl,rfl,rfl⟩:=trodAll_nil h;exact rfl
 | t::ts,vs,ds,ps,hr,h,hlt=>by
  obtain⟨v,vs',d,ds',p,q,rfl,rfl,rfl,h0,h'⟩:=trodAll_cons h;obtain⟨h1,h2⟩:=hr t (by simp);exact⟨p,q,Below.trod hl h1 h2 h0 hb (λx hx=>hlt x (by simp[hx])),IB hl hb ts vs' ds' q (λt ht=>hr t (by simp[ht])) h' (λx hx=>hlt x (by simp[hx])),rfl⟩
structure Vj{H:Type}(enc:TypeId × wc->H)(P:we)(fn:Func)(W:wd)(args:Array wc)(ds:List (DataW H))(ps:List MemPlace):Prop where
 trod:DataW.TrodAll enc P W 0 (λ_=>v7) v7 fn.params.toList args.toList ds ps
 wide:∃base,∀(j:Nat) t v,fn.params[j]?=vz t->args[j]?=vz v->wc.okWide P W .any base t v
 reach:(DataW.weightsEach P fn.params.toList ds).all (· <= reachBytes)=v7
 lt:∀x∈ps,x.block<W.heap.size
end
section
open Go.RowKit
section
variable{P:we}{w:wd}{t e:TypeId}{sz:Nat}
def L9(a:Addr):a.add 0=a:=by simp[Addr.add]
def Tc(A:Option Addr):A.map (·.add 0)=A:=by cases A<;>simp[L9]
def F4(A:Option Addr)(n c:Nat)(k:IntKind)(m:Int)(hu:P.underlying t=vz (.slice e))(hs:G9 P e=vz sz)(h0:0<=m)(h1:m<=(c:Int)):
  (Instr.sliceAt t (.slice A n c) v6 (vz (.int k m)) v6).run P w=.ok (.slice A m.toNat c) w:=by
 have hs':(sizeOf e).run P w=.ok sz w:=D5 hs;have hz:∀(c:Nat),(if c=0 then A else A.map (·.add (0*sz)))=A:=by intro c;rw[Nat.zero_mul,Tc];split<;>rfl
 simp[Instr.sliceAt,Instr.slice,underlying,hu,Instr.sliceBounds,Instr.sliceBound,asIntOf,h0,h1,hs'];cases A<;>simp[L9]
def G8(A:Option Addr)(n c:Nat)(k:IntKind)(l:Int)(hu:P.underlying t=vz (.slice e))(hs:G9 P e=vz sz)(h0:0<=l)(h1:l<=(n:Int)):
  (Instr.sliceAt t (.slice A n c) (vz (.int k l)) v6 v6).run P w=.ok (.slice (if c=l.toNat then A else A.map (·.add (l.toNat*sz))) (n-l.toNat) (c-l.toNat)) w:=by have hs':(sizeOf e).run P w=.ok sz w:=D5 hs;simp[Instr.sliceAt,Instr.slice,underlying,hu,Instr.sliceBounds,Instr.sliceBound,asIntOf,h0,h1,hs']
end
def Cq.drop{w:wd}{A:Option Addr}{n c sz:Nat}{xs:List (List wc)}(h:Cq w (.slice A n c) sz xs)(l:Nat)(hl:l<=n):
  Cq w (.slice (if c=l then A else A.map (·.add (l*sz))) (n-l) (c-l)) sz (xs.drop l):=by
 obtain⟨A',c',he,h1,h2,h3⟩:=h;simp only[zO]at he;obtain⟨rfl,rfl,rfl⟩:=he;have hlen:(xs.drop l).length=xs.length-l:=zZ;refine⟨_,_,by rw[hlen],by rw[hlen];omega,by omega,λhne=>?_⟩;obtain⟨g,o,cs,e,fz,rfl,hg,hc⟩:=h3 (by intro e;rw[e]at hne;simp at hne);have hlt:l<xs.length:=by
  rcases Nat.lt_or_ge l xs.length with h|h
  ·exact h
  ·exact absurd (xV h) hne
 refine⟨g,o+l*sz,cs,e,fz,?_,hg,λi x hi=>?_⟩
 ·rw[vm (by omega)];simp[add_mk]
 ·rw[yW]at hi;obtain⟨hx,hj⟩:=hc _ _ hi;refine⟨hx,λj hjs=>?_⟩;rw[<-hj j hjs];congr 1;rw[u9];omega
def ME{cs:Array wc}{x:List wc}{o sz:Nat}(hl:x.length=sz)(h:∀j,j<sz->cs[o+j]?=x[j]?):(0<sz->o+sz<=cs.size)/\(cs.toList.drop o).take sz=x:=by
 constructor
 ·intro h0;have:=h (sz-1) (by omega);rw[xO (by omega)]at this;have:=(wY.1 this).1;omega
 ·apply zF;intro j;rw[yX];by_cases hj:j<sz
  ·rw[vn hj,yW, <-h j hj];simp
  ·rw[vm hj,yC (by omega)]
def Bt{K:VK}{w:wd}{g o sz:Nat}{cs:Array wc}{e:TypeId}{fz:Nat × Nat}{x:List wc}(hg:w.heap[g]?=vz (.cells cs e fz))(hl:x.length=sz)(h0:0<sz)(h:∀j,j<sz->cs[o+j]?=x[j]?)(hk:K (.agg x.toArray) w):
  Ak sz (.pointer (vz ⟨g,o,v6⟩)) w K:=by obtain⟨h1,h2⟩:=ME hl h;exact AY hg (h1 h0) h2 hk
def AV{K:VK}{w:wd}{S:wd->Prop}{v:wc}{sz:Nat}{xs:List (List wc)}{k:IntKind}{i:Int}(h:∀w',S w'->Cq w' v sz xs)(hS:S w){x:List wc}(h0:0<=i)(hx:xs[i.toNat]?=vz x)(hk:∀g o,x.length=sz->(∀w',S w'->∃cs e fz,w'.heap[g]?=vz (.cells cs e fz)/\∀j,j<sz->cs[o+j]?=x[j]?)->K (.pointer (vz ⟨g,o,v6⟩)) w):A6 sz v (.int k i) w K:=by
 have hlt:i.toNat<xs.length:=(xI.1 hx).1;have hne:xs≠[]:=by intro he;rw[he]at hlt;simp at hlt
 obtain⟨A,c,rfl,h1,h2,h3⟩:=h w hS;obtain⟨g,o,cs,e,fz,rfl,hg,hc⟩:=h3 hne;rw[Bo];refine⟨⟨h0,by omega⟩,hk g _ (hc _ _ hx).1 λw' hw'=>?_⟩;obtain⟨A',c',he,_,_,h3'⟩:=h w' hw';simp only[zO]at he;obtain⟨rfl,_,rfl⟩:=he;obtain⟨g',o',cs',e',fz',hA,hg',hc'⟩:=h3' hne;simp only[zM,Addr.mk.injEq]at hA;obtain⟨rfl,rfl,_⟩:=hA;exact⟨cs',e',fz',hg',λj hj=>by rw[uo];exact (hc' _ _ hx).2 j hj⟩
def Bc{K:VK}{S:wd->Prop}{w:wd}{g o sz:Nat}{x:List wc}(hl:x.length=sz)(h0:0<sz)(h:∀w',S w'->∃cs e fz,w'.heap[g]?=vz (.cells cs e fz)/\∀j,j<sz->cs[o+j]?=x[j]?)(hk:K (.agg x.toArray) w):
  AN S sz (.pointer (vz ⟨g,o,v6⟩)) w K:=by refine AR (vs:=x) (λw' hw'=>?_) hk;obtain⟨cs,e,fz,hg,hc⟩:=h w' hw';obtain⟨h1,h2⟩:=ME hl hc;exact⟨cs,e,fz,hg,h1 h0,h2⟩
def BO(w:wd)(v:wc)(e:TypeId)(sz:Nat)(xs:List (List wc)):Prop:=
 w.ownsRow 0 e sz v xs.length xs.flatten/\∀x∈xs,x.length=sz/\∀u∈x,u.oneCell'=v7
theorem Ep{sz:Nat}:∀(xs:List (List wc)),(∀x∈xs,x.length=sz)->∀(i:Nat) (x:List wc),xs[i]?=vz x->∀j,j<sz->xs.flatten[i*sz+j]?=x[j]?
 | [],_,i,x,h,_,_=>by simp at h
 | y::xs,hl,0,x,h,j,hj=>by
  simp only[xS,zM]at h;subst h;have:=hl y (by simp);simp only[Nat.zero_mul,uy,zG];rw[xH (by omega)]
 | y::xs,hl,i+1,x,h,j,hj=>by
  simp only[xR]at h;have hy:=hl y (by simp);have ih:=Ep xs (λz hz=>hl z (by simp[hz])) i x h j hj;simp only[zG];rw[xD (by rw[hy,u9];omega),hy, <-ih];congr 1;rw[u9];omega
theorem Er{sz:Nat}:∀(xs:List (List wc)),(∀x∈xs,x.length=sz)->xs.flatten.length=xs.length*sz
 | [],_=>by simp
 | y::xs,hl=>by
  rw[zG,yY,hl y (by simp),Er xs (λz hz=>hl z (by simp[hz])),zY,u9];omega
def BO.nil(w:wd)(e:TypeId)(sz:Nat):BO w (.slice v6 0 0) e sz []:=⟨⟨by simp,.inl ⟨rfl,rfl⟩⟩,by simp⟩
def BO.lt{w:wd}{v:wc}{e:TypeId}{sz:Nat}{xs:List (List wc)}(h:BO w v e sz xs){g:Nat}(hg:v.ownBlock=vz g):g<w.heap.size:=by
 obtain⟨⟨_,h⟩,_⟩:=h;rcases h with⟨rfl,_⟩|⟨g',cap,cur,rfl,_,hh,_⟩
 ·simp[wc.ownBlock]at hg
 ·simp only[wc.ownBlock,zM]at hg;subst hg;exact BP hh
def BO.keep{S:List Nat}{w w':wd}{v:wc}{e:TypeId}{sz:Nat}{xs:List (List wc)}(h:BO w v e sz xs)(hf:Fr S w w')(hS:∀g,v.ownBlock=vz g->g∉S):BO w' v e sz xs:=by
 obtain⟨⟨h1,h2⟩,h3⟩:=h;refine⟨⟨h1,?_⟩,h3⟩;rcases h2 with h2|⟨g,cap,cur,rfl,hb,hh,r⟩
 ·exact .inl h2
 ·exact .inr ⟨g,cap,cur,rfl,hb,hf.at_ hh (hS g rfl),r⟩
def BO.rd{w:wd}{v:wc}{e:TypeId}{sz:Nat}{xs:List (List wc)}(h:BO w v e sz xs):Cq w v sz xs:=by
 obtain⟨⟨h1,h2⟩,h3⟩:=h;rcases h2 with⟨rfl,h2⟩|⟨g,cap,cur,rfl,hb,hh,h4,h5,h6,h7⟩
 ·have:xs=[]:=wW h2;subst this;exact⟨v6,0,rfl,by simp,by simp[maxLen],λh=>absurd rfl h⟩
 ·refine⟨_,cap,rfl,h4,h5,λ_=>⟨g,0,cur,e,(0,0),rfl,hh,λi x hx=>?_⟩⟩;have hl:∀x∈xs,x.length=sz:=λx hx=>(h3 x hx).1;have hlt:i<xs.length:=(xI.1 hx).1;refine⟨hl x (yN hx),λj hj=>?_⟩;have:=Ep xs hl i x hx j hj;rw[<-this, <-h7,yX,vn]
  ·simp
  ·have:(i+1)*sz<=xs.length*sz:=yP _ hlt;rw[u9]at this;omega
def BO.len{w:wd}{v:wc}{e:TypeId}{sz:Nat}{xs:List (List wc)}(h:BO w v e sz xs):∃A c,v=.slice A xs.length c:=by
 obtain⟨⟨_,h⟩,_⟩:=h;rcases h with⟨rfl,h⟩|⟨g,cap,cur,rfl,_⟩
 ·exact⟨v6,0,by rw[h]⟩
 ·exact⟨_,cap,rfl⟩
def BM(v:wc):List Nat:=match v.ownBlock with | vz g=>[g] | v6=>[]
def Cl{v:wc}{x:Nat}:x∈BM v↔v.ownBlock=vz x:=by
 unfold BM;cases v.ownBlock with
 | none=>simp
 | some g=>simp[eq_comm]
def I6{w w':wd}{v:wc}(h:w.grownBy w' v.ownBlock):Fr (BM v) w w':=
 ⟨h.os,h.tape,h.output,h.size,λb hb hS=>h.block b hb (λe=>hS (Cl.2 e.symm))⟩
section
variable{P:we}{K:VK}{w:wd}
def Bu{t ty e:TypeId}{sz bytes:Nat}{z:wc}{v src:wc}{xs ys:List (List wc)}(ht:P.underlying t=vz (.slice e))(hinfo:(P.info? e).map (λi=>(i.zero,i.size,i.bytes))=vz (vz z,sz,bytes))(hz:z.cells.size=sz)(hsz:0<sz)(hv:BO w v e sz xs)(hs:Cq w src sz ys)(h1:∀y∈ys,∀u∈y,u.oneCell'=v7)(hb:(xs.length+ys.length)*bytes<=140737488355328)(hm:xs.length+ys.length<=9223372036854775807)(hk:∀v' w',BO w' v' e sz (xs++ys)->Fr (BM v) w w'->(v'.ownBlock=v.ownBlock∨∃g,v'.ownBlock=vz g/\w.heap.size<=g)->(v'=.slice v6 0 0↔v=.slice v6 0 0/\ys=[])->K v' w'):
  Am P (Builtin.append_ #[t,t] ty #[v,src]) w K:=by
 obtain⟨i0,hi,hzz⟩:=xZ.1 hinfo;simp only[uq]at hzz;obtain⟨hz0,hz1,hz2⟩:=hzz;obtain⟨A,c,rfl,hlc,hcm,hcell⟩:=hs;have hyl:∀y∈ys,y.length=sz:=by intro y hy;obtain⟨i,hi',rfl⟩:=yS hy;obtain⟨g,o,cs,e',fz,_,_,hc⟩:=hcell (by intro h;rw[h]at hi';simp at hi');exact (hc i _ (xO hi')).1
 cases A with
 | none=>
  have:ys=[]:=by apply xF;intro hne;obtain⟨g,o,cs,e',fz,h,_⟩:=hcell hne;cases h
  subst this;refine A7 (v:=v) (w':=w) ?_ (hk v w (by simpa using hv) (Fr.refl _ _) (.inl rfl) (by simp));rcases hv.1.2 with⟨rfl,hn⟩|⟨g,cap,cur,rfl,_,_,hnc,_⟩
  ·simp[Builtin.append_,underlying,ht,sizeOf,typeInfo,hi,Builtin.lenOf,Builtin.firstCells]
  ·simp[Builtin.append_,underlying,ht,sizeOf,typeInfo,hi,Builtin.lenOf,Builtin.firstCells,hnc,storeCells]
 | some ad=>
  have hnews:∀j u,ys.flatten[j]?=vz u->w.cell? (ad.add j)=vz u:=by
   intro j u hj;have hlt:j<ys.flatten.length:=(xI.1 hj).1;rw[Er ys hyl]at hlt;have hne:ys≠[]:=by intro h;rw[h]at hlt;simp at hlt
   obtain⟨g,o,cs,e',fz,hA,hg,hc⟩:=hcell hne;simp only[zM]at hA;subst hA;have hdiv:j / sz<ys.length:=Nat.div_lt_of_lt_mul (by rwa [ux]);have hmod:j % sz<sz:=Nat.mod_lt _ hsz;have e1:=hc (j / sz) _ (xO hdiv);have e2:=Ep ys hyl (j / sz) _ (xO hdiv) (j % sz) hmod;have hj':j / sz*sz+j % sz=j:=by rw[ux];exact Nat.div_add_mod j sz
   rw[hj',hj]at e2;have e3:=e1.2 (j % sz) hmod;rw[hj', <-e2]at e3;rw[_root_.Go.Proofs.QV.add_mk,EW hg,e3]
  obtain⟨v1,w1,hr,hown,hg,hnil,hat⟩:=run_append_own_at (P:=P) (w:=w) 0 t ty e i0 z sz bytes ht hi hz0 hz1 hz2 hz hsz v xs.length xs.flatten hv.1 ad ys.length c ys.flatten (Er ys hyl) hnews
   (by intro u hu;obtain⟨y,hy,hu⟩:=List.mem_flatten.1 hu;exact h1 y hy u hu) (by unfold maxLen;omega) hb (Nat.zero_le _)
  refine A7 hr (hk v1 w1 ⟨?_,?_⟩ (I6 hg) ?_ ?_)
  ·rw[yY,List.flatten_append];exact hown
  ·intro x hx;rcases j4.1 hx with hx|hx
   ·exact hv.2 x hx
   ·exact⟨hyl x hx,h1 x hx⟩
  ·rcases hat with h|h
   ·exact .inl h
   ·exact .inr ⟨_,h,va _⟩
  ·rw[hnil];constructor
   ·rintro⟨h1,h2⟩;exact⟨h1,wW h2⟩
   ·rintro⟨h1,h2⟩;exact⟨h1,by rw[h2];rfl⟩
def Cq.of_block{g n c sz:Nat}{e:TypeId}{fz:Nat × Nat}{cs:Array wc}{xs:List (List wc)}(hg:w.heap[g]?=vz (.cells cs e fz))(hn:n=xs.length)(hc:n<=c)(hcm:c<=9223372036854775807)(hl:∀x∈xs,x.length=sz)(hx:cs.toList.take (n*sz)=xs.flatten):
  Cq w (.slice (vz ⟨g,0,v6⟩) n c) sz xs:=by
 subst hn;refine⟨_,c,rfl,hc,by unfold maxLen;omega,λ_=>⟨g,0,cs,e,fz,rfl,hg,λi x hi=>?_⟩⟩;refine⟨hl x (yN hi),λj hj=>?_⟩;have hlt:i<xs.length:=(xI.1 hi).1;rw[<-Ep xs hl i x hi j hj, <-hx,yX,vn]
 ·simp
 ·have:(i+1)*sz<=xs.length*sz:=yP _ hlt;rw[u9]at this;omega
def BO.of_block{g n c sz:Nat}{e:TypeId}{cs:Array wc}{xs:List (List wc)}(hg:w.heap[g]?=vz (.cells cs e (0,0)))(hn:n=xs.length)(hc:n<=c)(hcm:c<=9223372036854775807)(hcs:cs.size=c*sz)(hl:∀x∈xs,x.length=sz/\∀u∈x,u.oneCell'=v7)(hx:cs.toList.take (n*sz)=xs.flatten):
  BO w (.slice (vz ⟨g,0,v6⟩) n c) e sz xs:=by subst hn;exact⟨⟨Er xs λx h=>(hl x h).1,.inr ⟨g,c,cs,rfl,Nat.zero_le _,hg,hc,by unfold maxLen;omega,hcs,hx⟩⟩,hl⟩
end
def Hr{T R y:List wc}{o:Nat}(h:o+y.length<=T.length):CD (T++R) o y=CD T o y++R:=by unfold CD;rw[List.take_append_of_le_length (by omega),List.drop_append_of_le_length (by omega)];simp
def E4{T y:List wc}{o:Nat}(h:o+y.length<=T.length):(CD T o y).length=T.length:=by unfold CD;simp;omega
theorem Gf{sz:Nat}{y:List wc}(hy:y.length=sz):∀(xs:List (List wc)),(∀x∈xs,x.length=sz)->∀j,j<xs.length->(xs.set j y).flatten=CD xs.flatten (j*sz) y
 | [],_,j,hj=>by simp at hj
 | a::xs,hl,0,_=>by
  have ha:=hl a (by simp);simp only[List.set_cons_zero,zG,Nat.zero_mul,CD,List.take_zero,j5,uy];rw[hy, <-ha,List.drop_left]
 | a::xs,hl,j+1,hj=>by
  have ha:=hl a (by simp);simp only[zY,Nat.add_lt_add_iff_right]at hj;have ih:=Gf hy xs (λx hx=>hl x (by simp[hx])) j hj;simp only[List.set_cons_succ,zG,ih];unfold CD;have e:(j+1)*sz=a.length+j*sz:=by rw[ha,u9];omega
  rw[e,List.take_length_add_append,uo,List.drop_length_add_append];simp
section
variable{P:we}{K:wd->Prop}{w:wd}
def Bi{v x:wc}{e:TypeId}{sz:Nat}{xs:List (List wc)}{k:IntKind}{j:Int}(ho:BO w v e sz xs)(h0:0<=j)(hj:j.toNat<xs.length)(hx:x.cells.size=sz)(h1:∀u∈x.cells.toList,u.oneCell'=v7)(hk:∀w',BO w' v e sz (xs.set j.toNat x.cells.toList)->Fr (BM v) w w'->w'.heap.size=w.heap.size->K w'):A6 sz v (.int k j) w λp w1=>Aj sz p x w1 K:=by
 obtain⟨⟨h2,h3⟩,h4⟩:=ho;rcases h3 with⟨rfl,h3⟩|⟨g,cap,cur,rfl,hb,hh,h5,h6,h7,h8⟩
 ·omega
 ·simp only[Bo];have hle:(j.toNat+1)*sz<=cap*sz:=yP _ (by omega);have hle2:(j.toNat+1)*sz<=xs.length*sz:=yP _ hj;have hle3:xs.length*sz<=cap*sz:=yP _ h5;rw[u9]at hle hle2;refine⟨⟨h0,by omega⟩,Bq hh hx h1 (by omega) λw' hu=>hk w' ?_ (hu.fr.mono (by simp[BM,wc.ownBlock])) hu.sz⟩;have hxl:x.cells.toList.length=sz:=by simpa using hx
  rw[uy]at hu;have hsz:(CD cur.toList (j.toNat*sz) x.cells.toList).length=cur.toList.length:=E4 (by rw[hxl];simp;omega);have ht:(cur.toList.take (xs.length*sz)).length=xs.length*sz:=List.length_take_of_le (by simp;omega);refine BO.of_block (n:=xs.length) hu.at_ (by simp) h5 (by unfold maxLen at h6;omega) (by rw[List.size_toArray,hsz];simpa using h7) (λy hy=>?_) ?_
  ·rcases xK hy with hy|rfl
   ·exact h4 y hy
   ·exact⟨hxl,h1⟩
  ·rw[Gf hxl xs (λy hy=>(h4 y hy).1) _ hj, <-h8];show (CD cur.toList (j.toNat*sz) x.cells.toList).take (xs.length*sz)=CD (cur.toList.take (xs.length*sz)) (j.toNat*sz) x.cells.toList;generalize hT:cur.toList.take (xs.length*sz)=T at *;have hc:cur.toList=T++cur.toList.drop (xs.length*sz):=by rw[<-hT];exact (yH _ _).symm
   rw[hc,Hr (by rw[hxl,ht];omega)];exact List.take_left' (by rw[E4 (by rw[hxl,ht];omega),ht])
end
def Cc(w:wd)(v:wc):Prop:=∀g,v.ownBlock=vz g->w.heap.size<=g
def Cc.mono{w w':wd}{v:wc}(h:Cc w' v)(hf:w.heap.size<=w'.heap.size):Cc w v:=λg hg=>uw hf (h g hg)
def Cc.nil(w:wd):Cc w (.slice v6 0 0):=λg hg=>by simp[wc.ownBlock]at hg
def Cc.blk{w:wd}{v:wc}(h:Cc w v):∀g∈BM v,w.heap.size<=g:=λg hg=>h g (Cl.1 hg)
def Nb{c:Array wc}{sz:Nat}(hc:c.size=sz)(h0:0<sz)(n:Nat):(madeCells c (n*sz)).toList=(List.replicate n c.toList).flatten:=by
 have hl:∀x∈List.replicate n c.toList,x.length=sz:=λx hx=>by rw[xN hx];simpa using hc
 apply zF;intro k;by_cases hk:k<n*sz
 ·have hdiv:k / sz<n:=Nat.div_lt_of_lt_mul (by rwa [ux]);have hmod:k % sz<sz:=Nat.mod_lt _ h0;have e2:=Ep _ hl (k / sz) c.toList (by rw[xT,vn hdiv]) (k % sz) hmod;have hk':k / sz*sz+k % sz=k:=by rw[ux];exact Nat.div_add_mod k sz
  rw[hk']at e2;rw[e2];unfold madeCells;simp[hk,hc];rw[xE (by omega),getElem!_pos c _ (by omega)]
 ·rw[yC (by unfold madeCells;simp;omega),yC (by rw[Er _ hl];simp;omega)]
section
variable{P:we}{K:VK}{w:wd}
def BO.mem_lt{w:wd}{v:wc}{e:TypeId}{sz:Nat}{xs:List (List wc)}(h:BO w v e sz xs):∀g∈BM v,g<w.heap.size:=λg hg=>h.lt (Cl.1 hg)
def BO.keep'{S:List Nat}{w w':wd}{v:wc}{e:TypeId}{sz:Nat}{xs:List (List wc)}(h:BO w v e sz xs)(hf:Fr S w w')(hS:∀g∈BM v,g∉S):BO w' v e sz xs:=h.keep hf λg hg=>hS g (Cl.2 hg)
def BO.cap{v:wc}{e:TypeId}{sz:Nat}{xs:List (List wc)}(h:BO w v e sz xs):∃A c,v=.slice A xs.length c/\xs.length<=c/\(A=v6->xs=[]):=by
 obtain⟨⟨_,h⟩,_⟩:=h;rcases h with⟨rfl,h⟩|⟨g,cap,cur,rfl,_,_,h1,_⟩
 ·exact⟨v6,0,by rw[h],by omega,λ_=>wW h⟩
 ·exact⟨_,cap,rfl,h1,λh=>by cases h⟩
def BO.one{v:wc}{e:TypeId}{sz:Nat}{xs:List (List wc)}(h:BO w v e sz xs):v.oneCell'=v7/\v.cells = #[v]:=by obtain⟨A,c,rfl⟩:=h.len;exact⟨rfl,rfl⟩
def BO.take{A:Option Addr}{n c sz:Nat}{e:TypeId}{xs:List (List wc)}(h:BO w (.slice A n c) e sz xs)(m:Nat)(hm:m<=n)(hA:A=v6->m=0):BO w (.slice A m c) e sz (xs.take m):=by
 obtain⟨⟨h1,h2⟩,h3⟩:=h;have h3':∀x∈xs.take m,x.length=sz/\∀u∈x,u.oneCell'=v7:=λx hx=>h3 x (yO hx);rcases h2 with⟨he,hn⟩|⟨g,cap,cur,he,hb,hh,r1,r2,r3,r4⟩
 ·simp only[zO]at he;obtain⟨rfl,rfl,rfl⟩:=he;have:m=0:=by omega
  subst this;simp only[List.take_zero];exact BO.nil w e sz
 ·simp only[zO]at he;obtain⟨rfl,rfl,rfl⟩:=he;have hl:(xs.take m).length=m:=by rw[b7];omega
  have:=BO.of_block (w:=w) (g:=g) (n:=m) (c:=c) (sz:=sz) (e:=e) (cs:=cur) (xs:=xs.take m) hh hl.symm (by omega) (by unfold maxLen at r2;omega) r3 h3' ?_
  ·exact this
  ·have e1:cur.toList.take (m*sz)=(cur.toList.take (xs.length*sz)).take (m*sz):=by rw[List.take_take,Nat.min_eq_left (yP _ hm)]
   rw[e1,r4];have hlen:∀x∈xs,x.length=sz:=λx hx=>(h3 x hx).1;have:xs.flatten=(xs.take m).flatten++(xs.drop m).flatten:=by rw[<-List.flatten_append,yH]
   rw[this,List.take_left' (by rw[Er _ λx hx=>hlen x (yO hx),hl])]
def Be{t e:TypeId}{sz bytes:Nat}{z:wc}{k k':IntKind}(n:Nat)(ht:P.underlying t=vz (.slice e))(hinfo:(P.info? e).map (λi=>(i.zero,i.size,i.bytes))=vz (vz z,sz,bytes))(hz:z.cells.size=sz)(hsz:0<sz)(h1:∀u∈z.cells.toList,u.oneCell'=v7)(hb:bytes*n<=281474976710656)(hm:n<=9223372036854775807)(hk:∀g w',Dz w g (.cells (madeCells z.cells (n*sz)) e) w'->BO w' (.slice (vz ⟨g,0,v6⟩) n n) e sz (List.replicate n z.cells.toList)->K (.slice (vz ⟨g,0,v6⟩) n n) w'):Am P (Instr.makeSlice t (.int k (n:Int)) (.int k' (n:Int))) w K:=by
 obtain⟨i0,hi,hzz⟩:=xZ.1 hinfo;simp only[uq]at hzz;obtain⟨hz0,hz1,hz2⟩:=hzz;have hr:=run_make (P:=P) w t e i0 z ht hi hz0 k k' (n:Int) (n:Int) (by omega) (u7 _) (by rw[hz2, <-Int.natCast_mul];omega) (by omega);simp only[zE,hz1]at hr;have hn:=Dz.mk' w (.cells (madeCells z.cells (n*sz)) e);refine A7 hr (hk _ _ hn (BO.of_block hn.at_ (by simp) (va _) (by omega) (by unfold madeCells;simp) (λx hx=>?_) ?_))
 ·rw[xN hx];exact⟨by simpa using hz,h1⟩
 ·rw[Nb hz hsz,xX];rw[Er (sz:=sz) _ λx hx=>by rw[xN hx];simpa using hz];simp
def KO{g:Nat}{e:TypeId}{cs cs':Array wc}(h:w.heap[g]?=vz (.cells cs e (0,0))):GB w g (.cells cs' e (0,0)) (w.setRow g cs'):=by refine⟨⟨rfl,rfl,rfl,by simp[wd.setRow],λb _ hb=>?_⟩,setRow_heap w g cs cs' e _ h,by simp[wd.setRow]⟩;simp only[yZ]at hb;simp[wd.setRow,yA,vk hb]
end
end
section
open Go.Proofs Go.RowKit
def CJ(n:Int):Int:=IntKind.i64.wrap n
def BT(k:Int):Int:=if k=1 then 2 else if k=2 then 4 else if k=3 then 8 else if k=4 then 16 else 0
def CC(n:Int):Int:=if n<0∨n>127 then 0 else if n<2 then 1 else if n<4 then 2 else if n<8 then 3 else if n<16 then 4 else 5
def BQ(k:Int):Int:=if k=1 then 16 else if k=2 then 8 else if k=3 then 4 else if k=4 then 2 else 0
def Ef(n:Int):Int:=if CC n=5 then (n+32) / 32 else 0
def Ct(a:Int):Int:=if 0<=a/\a<2048 then a / 32 else -1
def JC(p k i:Int):Int × Bool:=if 0<=p/\p<64/\0<=i/\i<BQ k then (p*32+i*BT k,v7) else (0,v8)
def Ei(k a:Int):Int:=if BT k=0∨Ct a<0 then -1 else a-a % BT k
def Gg(k a:Int):Int × Bool:=if Ei k a<0∨Ei k a≠a then (0,v8) else (a % 32 / BT k,v7)
def Gh(p n:Int):Int × Int × Bool:=if 0<=p/\1<=n/\p<64/\n<=64-p then (p*32,(p+n)*32-1,v7) else (0,0,v8)
def Ft(s n:Int):Int:=if 0<=s/\s<1099511627776/\0<=n/\n<=127 then s*128+n else 0
def Gz(w:Int):Int × Int:=if 0<=w/\w / 128<1099511627776 then (w / 128,w % 128) else (0,0)
abbrev V2:=Int × Int
def D8(k n:Int):Int:=if k=0 then (if n=0 then 0 else 4) else if k=1 then (if -1099511627776<=n/\n<1099511627776 then 0 else 4) else if k=2 then (if 0<=n/\n<2048 then 0 else 4) else 12
def Kd(k n:Int):Int:=if k=2 then 2*n+2 else if k=1 then 2*n+1 else 0
def KE(a:Int):Int:=if a % 2=1 then 1 else if a=0 then 0 else 2
def KF(a:Int):Int:=if a % 2=1 then a / 2 else if a=0 then 0 else a.tdiv 2-1
def Dk(v:V2):Bool:=decide (D8 v.1 v.2=0)
def E7(v:V2):Int:=Kd v.1 v.2
def GS(w:Int):V2 × Bool:=if D8 (KE w) (KF w)=0 then ((KE w,KF w),v7) else ((0,0),v8)
def EC(m:List Int)(a n:Int):Prop:=0<=a/\0<=n/\a<=m.length/\n<=m.length-a
instance (m:List Int) (a n:Int):Decidable (EC m a n):=by unfold EC;infer_instance
def Cs(m:List Int)(a:Int):Int:=if EC m a 1 then m.getD a.toNat 0 else 0
def CV(m:List Int)(a n w:Int):List Int:=if EC m a n then m.take a.toNat++List.replicate n.toNat w++m.drop (a.toNat+n.toNat) else m
def Dm(m:List Int)(a n w:Int):(CV m a n w).length=m.length:=by
 unfold CV;split
 ·rename_i h;unfold EC at h;simp only[yY,b7,yF,zZ];omega
 ·rfl
def DA(m:List Int)(a w:Int):List Int:=CV m a 1 w
abbrev Bs:=Nat->Bool
def EY(n:Int)(s:Bs)(i:Int):Bool:=decide (0<=i) && decide (i<n) && s i.toNat
def CG(s:Bs)(i:Nat)(b:Bool):Bs:=λj=>if j=i then b else s j
def II(n:Int)(s:Bs)(i:Int):Bs:=if 0<=i/\i<n then CG s i.toNat v7 else s
def JR(n:Int)(s:Bs)(i:Int):Bs:=if EY n s i then CG s i.toNat v8 else s
def HY(n:Int)(s:Bs):List Int:=((List.range n.toNat).filter s).map Int.ofNat
def BS(ks:List Int)(p:Int):Int:=if 0<=p/\p<ks.length then ks.getD p.toNat 0 else -1
def Fw(ks:List Int)(k:Int):Option Nat:=if BT k=0 then v6 else ks.findIdx? λk=>decide (k=0)
def E2(n:Nat):List Int->Nat->Nat->Option Nat
 | [],p,run=>if n<=run then vz (p-run) else v6
 | k::ks,p,run=>if k=0 then E2 n ks (p+1) (run+1) else if 0<run/\n<=run then vz (p-run) else E2 n ks (p+1) 0
def Fe(ks:List Int)(n:Int):Option Nat:=if n<1 then v6 else E2 n.toNat ks 0 0
def Dg(ks:List Int)(p n:Nat)(k:Int):List Int:=ks.take p++List.replicate n k++ks.drop (p+n)
def D7:List Int->Nat
 | []=>0
 | k::ks=>if k=6 then D7 ks+1 else 0
def Cu(ks:List Int)(p:Int):Nat:=if BT (BS ks p)>0 then 1 else if BS ks p=5 then D7 (ks.drop (p.toNat+1))+1 else 0
def H7(ks:List Int)(p:Int):List Int:=if Cu ks p=0 then ks else Dg ks p.toNat (Cu ks p) 0
def Ek(ks:List Int):Nat->Int
 | 0=>if BS ks 0=6 then -1 else 0
 | p+1=>if BS ks ((p+1:Nat):Int)=6 then Ek ks p else ((p+1:Nat):Int)
def Fj(ks:List Int)(p:Int):Int:=if Cu ks (if 0<=p then Ek ks p.toNat else p)=0 then -1 else if 0<=p then Ek ks p.toNat else p
def D4(ks:List Int):Int:=ks.countP λk=>decide (k=0)
def Fd(m:List Int)(p k:Int):Prop:=0<=p/\p<64/\0<BQ k/\p*32+31<m.length
instance (m:List Int) (p k:Int):Decidable (Fd m p k):=by unfold Fd;infer_instance
def FQ(m:List Int)(p k i next:Int):List Int:=DA m (JC p k i).1 (-1-next)
def Ej(m:List Int)(p k:Int):Nat->List Int
 | 0=>m
 | i+1=>FQ (Ej m p k i) p k i (i+1)
def D9(m:List Int)(p k:Int):List Int × (Int × Int):=if Fd m p k then (Ej (CV m (p*32) 32 0) p k (BQ k).toNat,(0,BQ k)) else (m,(0,0))
def Jw(m:List Int)(p k i:Int):Option Int:=let w:=Cs m (JC p k i).1;if 0<=w∨w < -1-BQ k then v6 else vz (-1-w)
def DN(m:List Int)(p k:Int)(l:Int × Int):Int × (Int × Int):=if Fd m p k/\1<=l.2/\0<=l.1/\l.1<BQ k then (match Jw m p k l.1 with
  | some x=>(l.1,(x,l.2-1))
  | none=>(0,(0,0))) else (0,(0,0))
def EM(m:List Int)(p k:Int)(l:Int × Int)(i:Int):List Int × (Int × Int):=if Fd m p k/\0<=i/\i<BQ k/\0<=l.2/\l.2<BQ k/\0<=l.1/\l.1<=BQ k then (FQ m p k i l.1,(i,l.2+1)) else (m,(0,0))
structure Ce where
 ks:List Int
 m:List Int
 ch:List (Int × Int)
 tk:Bs
def Ce.n(c:Ce):Int:=c.m.length
def Ce.small(c:Ce)(p:Int):Bool:=decide (BT (BS c.ks p)>0)
def Ce.chain(c:Ce)(p:Int):Int × Int:=c.ch.getD p.toNat (0,0)
def Ce.left(c:Ce)(p:Int):Int:=if c.small p then (c.chain p).2 else 0
def Ce.carve(c:Ce)(k:Int):Ce × Option Nat:=match Fw c.ks k with
 | none=>(c,none)
 | some p=>({ c with ks:=c.ks.set p k,m:=(D9 c.m p k).1,ch:=c.ch.set p (D9 c.m p k).2 },some p)
def Ce.take(c:Ce)(p:Int):Ce × Option Int:=if c.left p=0 then (c,v6) else
 let k:=BS c.ks p
 let r:=DN c.m p k (c.chain p)
 let a:=(JC p k r.1).1
 ({ c with ch:=c.ch.set p.toNat r.2,tk:=II c.n c.tk a,m:=CV c.m a (BT k) 0 },vz a)
def Ce.large(c:Ce)(n:Int):Ce × Option Int:=match Fe c.ks n with
 | none=>(c,none)
 | some p=>
  let a:=(Gh p n).1
  ({ c with ks:=(Dg c.ks p n.toNat 6).set p 5,tk:=II c.n c.tk a,m:=CV c.m a (n*32) 0 },vz a)
def Ce.isIt(c:Ce)(a:Int):Bool:=EY c.n c.tk a
def Ce.give(c:Ce)(a:Int):Ce × Bool:=if c.isIt a then
  let t:=JR c.n c.tk a
  let p:=Ct a
  let k:=BS c.ks p
  if k=5 then ({ c with tk:=t,ks:=H7 c.ks p },v7) else
  let r:=EM c.m p k (c.chain p) (Gg k a).1
  ({ c with tk:=t,m:=r.1,ch:=c.ch.set p.toNat r.2 },v7) else (c,v8)
def Ce.drop(c:Ce)(p:Int):Ce × Bool:=if c.small p/\BQ (BS c.ks p)<=c.left p then ({ c with ks:=H7 c.ks p },v7) else (c,v8)
def Ce.base(c:Ce)(a:Int):Int:=
 let p:=Ct a
 let b:=Ei (BS c.ks p) a
 let f:=Fj c.ks p
 let d:=if b<0/\0<=f then (Gh f 1).1 else b
 if c.isIt d then d else -1
def Ce.store(c:Ce)(a w:Int):Ce × Bool:=if 0<=c.base a/\EC c.m a 1 then ({ c with m:=DA c.m a w },v7) else (c,v8)
abbrev Om:=Int × Int->Option Int
def FA:List (Int × Int):=(List.range 9).flatMap λt:Nat=>[(Int.ofNat t,1),(Int.ofNat t,2),(Int.ofNat t,3),(Int.ofNat t,4)]
def EQ(f:Om)(a:Int × Int):Int:=(f a).getD (-1)
def Dn(f:Om)(p:Int):Int × Int:=match FA.find? (λa=>decide (f a=vz p)) with
 | some a=>a
 | none=>(-1,0)
def Kb(f:Om)(a:Int × Int)(p:Int):Om:=λb=>if b=a then vz p else f b
def Iq(f:Om)(t:Int):Om:=λb=>if b.1=t then v6 else f b
def Ff(f:Om)(t:Int):List Int:=([1,2,3,4]:List Int).filterMap λk=>f (t,k)
end
section
open Go.RowKit
section
variable{κ : Type}
def ent(kv : κ -> wc)(x : κ × wc × Nat):MapEntry:={ key:=kv x.1,val:=x.2.1,born:=x.2.2 }
def Ev(kv : κ -> wc)(w:wd)(b:Nat)(l:List (κ × wc × Nat))(c:Nat):Prop:=w.heap[b]?=vz (.map (l.map (ent kv)).toArray c)
def Ev.keep{kv : κ -> wc}{S:List Nat}{w w':wd}{b c:Nat}{l:List (κ × wc × Nat)}(h:Ev kv w b l c)(hf:Fr S w w')(hS:b∉S):Ev kv w' b l c:=hf.at_ h hS
def BG{P:we}{w:wd}{K:VK}{t:TypeId}{kv : κ -> wc}(hk:∀w',Fr [] w w'->Ev kv w' w.heap.size [] 0->w'.heap.size=w.heap.size+1->K (.map (vz w.heap.size)) w'):Am P (Instr.makeMap t v6) w K:=by have hn:=Dz.mk' w (.map #[] 0);refine A7 (v := .map (vz w.heap.size)) (w':=w.alloc (.map #[] 0)) ?_ (hk _ hn.fr hn.at_ hn.sz);simp[Instr.makeMap,newObj,Sem.run]
end
section
variable{κ : Type}[DecidableEq κ]
def ET(a : κ):List (κ × wc × Nat)->Nat->Option (Nat × wc)
 | [],_=>v6
 | x::l,i=>if x.1=a then vz (i,x.2.1) else ET a l (i+1)
theorem FZ{a : κ}:∀ {l:List (κ × wc × Nat)} {i:Nat},(∀x∈l,x.1≠a)->ET a l i=v6
 | [],_,_=>rfl
 | x::l,i,h=>by
  unfold ET;rw[vm (h x (by simp)),FZ λy hy=>h y (by simp[hy])]
theorem IQ{a : κ}:∀ {l:List (κ × wc × Nat)} {i:Nat},(∃x∈l,x.1=a)->∃(j:Nat) (x : κ × wc × Nat),l[j]?=vz x/\x.1=a/\(∀k y,k<j->l[k]?=vz y->y.1≠a)/\ET a l i=vz (i+j,x.2.1)
 | [],_,h=>by obtain⟨x,hx,_⟩:=h;cases hx
 | y::l,i,h=>by
  by_cases c:y.1=a
  ·exact⟨0,y,rfl,c,λk _ hk=>by omega,by unfold ET;rw[vn c];rfl⟩
  ·have h':∃x∈l,x.1=a:=by
    obtain⟨x,hx,e⟩:=h;rcases un.1 hx with d|d
    ·subst d;exact absurd e c
    ·exact⟨x,d,e⟩
   obtain⟨j,x,h1,h2,h3,h4⟩:=IQ (i:=i+1) h';refine⟨j+1,x,by simpa using h1,h2,λk z hk hz=>?_,?_⟩
   ·cases k with
    | zero=>simp at hz;subst hz;exact c
    | succ k=>exact h3 k z (by omega) (by simpa using hz)
   ·unfold ET;rw[vm c,h4];congr 2;omega
structure Hz(P:we)(kt:TypeId)(kv : κ -> wc):Prop where
 check:∀e a w,(Instr.checkKey e 10000 kt (kv a)).run P w=.ok () w
 find:∀a l w,(Instr.findKey kt (kv a) (l.map (ent kv))).run P w=.ok (ET a l 0) w
 same:∀a,Instr.sameBits 10000 (kv a) (kv a)=v7
def Hz.asked{P:we}{kt:TypeId}{kv : κ -> wc}{d:TypeDesc}(hu:P.underlying kt=vz d)(hc:∀e a w,(Instr.checkKey e 10000 kt (kv a)).run P w=.ok () w)(hn:∀a b,Instr.sameNow d (kv a) (kv b)=v6)(he:∀a b w,(Op.equal kt (kv a) (kv b)).run P w=.ok (decide (a=b)) w)(hs:∀a,Instr.sameBits 10000 (kv a) (kv a)=v7):Hz P kt kv where
 check:=hc
 find:=λa l w=>by
  have key:∀(l:List (κ × wc × Nat)) (i:Nat),(Instr.findAsking kt (kv a) (l.map (ent kv)) i).run P w=.ok (ET a l i) w:=by
   intro l;induction l with
   | nil=>intro i;rfl
   | cons x l ih=>
    intro i;simp only[q9,Instr.findAsking,ent,u1,he,zN,ET];by_cases c:x.1=a
    ·simp[c]
    ·simp only[vk c,u4,yT,vg,vm c];exact ih (i+1)
  cases l with
  | nil=>simp[Instr.findKey,o9 hu,Instr.findNow,ET]
  | cons x l=>
   have:=key (x::l) 0;simp only[q9]at this ⊢;simp[Instr.findKey,o9 hu,Instr.findNow,ent,hn]at this ⊢;exact this
 same:=hs
section
variable{P:we}{w:wd}{K:VK}{t kt et:TypeId}{kv : κ -> wc}{b c:Nat}{l:List (κ × wc × Nat)}
def FH{es:Array MapEntry}{k:Nat}(hb:w.heap[b]?=vz (.map es k)):(getObj b).run P w=.ok (.map es k) w:=by simp[getObj,Sem.run,hb]
def GQ{o:Obj}(hb:w.heap[b]?=vz o)(o':Obj):GB w b o' (w.putObj b o'):=by have hlt:=BP hb;refine⟨⟨rfl,rfl,rfl,by simp,λi _ hi=>?_⟩,wd.putObj_heap_same hlt,by simp⟩;simp only[yZ]at hi;exact wd.putObj_heap_other hi
def GO(es:Array MapEntry)(k:Nat){es':Array MapEntry}{k':Nat}(hb:w.heap[b]?=vz (.map es' k')):(setObj b (.map es k)).run P w=.ok () (w.putObj b (.map es k)):=by simp[setObj,Sem.run,wd.putObj,hb]
def B8(hK:Hz P kt kv)(ht:P.underlying t=vz (.map kt et)){z:wc}(hz:KR P et=vz z)(hb:Ev kv w b l c)(a : κ){ok:Bool}{v:wc}{is:Bool}(hv:(ET a l 0=v6/\v=z/\is=v8)∨(∃j,ET a l 0=vz (j,v)/\is=v7))(hk:K (if ok then .tuple #[v,.bool is] else v) w):Am P (Instr.lookup t (.map (vz b)) (kv a) ok) w K:=by
 refine A7 ?_ hk;have hz':=KK (w:=w) hz;rcases hv with⟨h1,rfl,rfl⟩|⟨j,h1,rfl⟩
 ·simp only[Instr.lookup,u1,o9 ht,zN,FH hb,hK.check,hK.find,h1,hz',u2]
 ·simp only[Instr.lookup,u1,o9 ht,zN,FH hb,hK.check,hK.find,h1,u2]
def BI{KU:wd->Prop}(hK:Hz P kt kv)(ht:P.underlying t=vz (.map kt et))(hb:Ev kv w b l c)(a : κ)(v:wc)(hn:ET a l 0=v6)(hk:∀w',Fr [b] w w'->w'.heap.size=w.heap.size->Ev kv w' b (l++[(a,v,c)]) (c+1)->KU w'):B0 P (Instr.mapUpdate t (.map (vz b)) (kv a) v) w KU:=by
 have hu:=GQ hb (.map ((l.map (ent kv)).toArray.push { key:=kv a,val:=v,born:=c }) (c+1));refine⟨_,?_,hk _ hu.fr hu.sz ?_⟩
 ·simp only[Instr.mapUpdate,u1,o9 ht,zN,FH hb,hK.check,hK.find,hn,GO _ _ hb]
 ·have:=hu.at_;rw[List.push_toArray]at this;simpa[Ev,ent] using this
def BB{KU:wd->Prop}(hK:Hz P kt kv)(ht:P.underlying t=vz (.map kt et))(hb:Ev kv w b l c)(a : κ)(v:wc){j:Nat}{x : κ × wc × Nat}(hj:l[j]?=vz x)(hx:x.1=a)(hf:ET a l 0=vz (j,x.2.1))(hk:∀w',Fr [b] w w'->w'.heap.size=w.heap.size->Ev kv w' b (l.set j (a,v,x.2.2)) c->KU w'):B0 P (Instr.mapUpdate t (.map (vz b)) (kv a) v) w KU:=by
 subst hx;have hjl:j<l.length:=(xI.1 hj).1;have hxj:l[j]=x:=(xI.1 hj).2;have hkey:((((l.map (ent kv)).toArray)[j]?).map (·.key)).getD (kv x.1)=kv x.1:=by simp[hj,ent]
 have hu:=GQ hb (.map ((l.map (ent kv)).toArray.modify j λe=>{ e with key:=kv x.1,val:=v }) c);refine⟨_,?_,hk _ hu.fr hu.sz ?_⟩
 ·simp only[Instr.mapUpdate,u1,o9 ht,zN,FH hb,hK.check,hK.find,hf,hkey,Instr.keyThatStays,hK.same,vj,u2,GO _ _ hb]
 ·have:=hu.at_;have e:(l.map (ent kv)).toArray.modify j (λe=>{ e with key:=kv x.1,val:=v })=((l.set j (x.1,v,x.2.2)).map (ent kv)).toArray:=by
   apply Array.ext
   ·simp
   ·intro i h1 h2;simp only[Array.getElem_modify,List.getElem_toArray,zV,zX];split
    ·rename_i e;subst e;simp[ent,hxj]
    ·rfl
  exact this.trans (by rw[e])
def BF{t' ty:TypeId}(hK:Hz P kt kv)(ht:P.underlying t=vz (.map kt et))(hb:Ev kv w b l c)(a : κ){l':List (κ × wc × Nat)}(hl:l'=match ET a l 0 with | vz (j,_)=>l.eraseIdx j | v6=>l)(hk:∀w',Fr [b] w w'->w'.heap.size=w.heap.size->Ev kv w' b l' c->K (.tuple #[]) w'):Am P (Builtin.delete_ #[t,t'] ty #[.map (vz b),kv a]) w K:=by
 have hu:=GQ hb (.map ((l'.map (ent kv)).toArray) c);refine A7 (v := .tuple #[]) ?_ (hk _ hu.fr hu.sz hu.at_);cases hf:ET a l 0 with
 | none=>
  rw[hf]at hl;subst hl;simp[Builtin.delete_,o9 ht,FH hb,hK.check,hK.find,hf,GO _ _ hb]
 | some p=>
  obtain⟨j,v⟩:=p;rw[hf]at hl;subst hl;have e:(l.map (ent kv)).toArray.eraseIdxIfInBounds j=((l.eraseIdx j).map (ent kv)).toArray:=by apply vd;simp[List.eraseIdx_eq_take_drop_succ]
  simp only[Builtin.delete_,yD,xS,xR,u1,o9 ht,zN,FH hb,hK.check,hK.find,hf,GO _ _ hb,e,u2]
end
end
end
end Go.Proofs.QV
