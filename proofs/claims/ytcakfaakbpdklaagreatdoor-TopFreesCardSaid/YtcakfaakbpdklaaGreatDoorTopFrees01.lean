/- Part 1 of what the law needs: own lemmas, in the order in which they build. -/
import Derived.WalkKit
import Derived.OrdersHeld
import Derived.KernelRfl
import Derived.Below
import Derived.OrdersIn
import Derived.TacticsIn
import Derived.RangeFuncSeq
import Derived.Scope
import Derived.Tactics
import Derived.RangeFuncIn
import Derived.RangeFuncLeaves
import Derived.RangeFuncRecord
set_option linter.defProp false
set_option linter.unusedVariables false
namespace Go.Proofs.YtcakfaakbpdklaaGreatDoorV
open Go
def y0a.{u}:=@List.findIdx?_eq_some_iff_getElem.{u}
def y0b.{u}:=@List.take_succ_eq_append_getElem.{u}
def y0c.{u}:=@Array.getElem?_setIfInBounds_ne.{u}
def y0d.{u}:=@List.eq_nil_of_length_eq_zero.{u}
def y0e.{u}:=@Array.getElem?_setIfInBounds.{u}
def y0f.{u}:=@Array.getElem?_append_left.{u}
def y0g.{u}:=@Array.getElem?_eq_some_iff.{u}
def y0h.{u}:=@List.getD_eq_getElem?_getD.{u}
def y0i:=@Int.tdiv_eq_ediv_of_nonneg
def y0j:=@Int.fdiv_eq_ediv_of_nonneg
def y0k:=@Int.tmod_eq_emod_of_nonneg
def y0l.{u}:=@Option.isNone_iff_eq_none.{u}
def y0m.{u}:=@List.getElem?_eq_some_iff.{u}
def y0n.{u}:=@Array.getElem?_eq_getElem.{u}
def y0o.{u}:=@List.drop_eq_getElem_cons.{u}
def y0p.{u}:=@List.getElem?_append_left.{u}
def y0q:=@Classical.byContradiction
def y0r.{u}:=@List.mem_or_eq_of_mem_set.{u}
def y0s.{u}:=@List.findIdx?_eq_none_iff.{u}
def y0t.{u}:=@List.pairwise_iff_getElem.{u}
def y0u.{u}:=@List.getElem_append_right.{u}
def y0v.{u}:=@List.getElem?_eq_getElem.{u}
def y0w.{u}:=@List.eq_of_mem_replicate.{u}
def y0x.{u}:=@List.getElem_append_left.{u}
def y0y.{u}:=@List.getElem?_cons_succ.{u}
def y0z.{u}:=@List.getElem?_cons_zero.{u}
def y1a.{u}:=@List.getElem?_replicate.{u}
def y1b:=@Int.eq_ofNat_of_zero_le
def y1c:=@Nat.ne_of_beq_eq_false
def y1d.{u,v}:=@Option.map_eq_some_iff.{u,v}
def y1e.{u}:=@List.drop_of_length_le.{u}
def y1f.{u}:=@List.take_of_length_le.{u}
def y1g.{u}:=@List.getElem_replicate.{u}
def y1h:=@Nat.eq_of_beq_eq_true
def y1i:=@Nat.le_of_ble_eq_true
def y1j.{u}:=@Array.getElem?_modify.{u}
def y1k.{u}:=@List.take_append_drop.{u}
def y1l.{u}:=@List.getElem?_eq_none.{u}
def y1m.{u}:=@List.length_replicate.{u}
def y1n.{u}:=@List.getElem?_toArray.{u}
def y1o.{u}:=@List.length_filter_le.{u}
def y1p.{u}:=@Array.getElem?_toList.{u}
def y1q.{u}:=@List.mem_iff_getElem?.{u}
def y1r.{u}:=@List.mem_of_getElem?.{u}
def y1s:=@Nat.mul_le_mul_right
def y1t.{u}:=@List.mem_of_mem_take.{u}
def y1u.{u}:=@List.getElem?_append.{u}
def y1v.{u}:=@List.dropLast_subset.{u}
def y1w.{u}:=@List.mem_iff_getElem.{u}
def y1x:=@Nat.pow_lt_pow_right
def y1y.{u}:=@List.getElem_of_mem.{u}
def y1z:=@Int.toNat_of_nonneg
def y2a.{u}:=@List.replicate_succ.{u}
def y2b:=@Bool.false_eq_true
def y2c:=@Nat.lt_of_lt_of_le
def y2d.{u}:=@List.mem_singleton.{u}
def y2e.{u}:=@Option.toList_some.{u}
def y2f.{u}:=@List.getElem?_take.{u}
def y2g.{u}:=@List.length_append.{u}
def y2h.{u}:=@List.getElem?_drop.{u}
def y2i.{u}:=@List.find?_eq_none.{u}
def y2j.{u}:=@List.filter_append.{u}
def y2k.{u}:=@Option.some.injEq.{u}
def y2m:=@Go.Result.andThen_ok
def y2n:=@Bool.not_eq_true'
def y2o.{u}:=@List.take_add_one.{u}
def y2p:=@Go.Value.slice.injEq
def y2q.{u,v}:=@List.getElem?_map.{u,v}
def y2r.{u}:=@List.ext_getElem?.{u}
def y2s.{u}:=@List.flatten_cons.{u}
def y2t:=@Int.toNat_natCast
def y2u.{u}:=@List.getElem?_set.{u}
def y2v:=@List.length_range
def y2w.{u}:=@List.nodup_append.{u}
def y2x.{u}:=@List.all_eq_true.{u}
def y2y:=@Bool.and_eq_true
def y2z.{u}:=@List.take_length.{u}
def y3a.{u}:=@List.length_cons.{u}
def y3b.{u}:=@List.length_take.{u}
def y3c.{u}:=@List.length_drop.{u}
def y3d.{u}:=@List.getElem_set.{u}
def y3e.{u}:=@List.ext_getElem.{u}
def y3f.{u}:=@Option.getD_some.{u}
def y3g.{u}:=@List.getElem_mem.{u}
def y3h.{u,v}:=@List.getElem_map.{u,v}
def y3i.{u}:=@List.not_mem_nil.{u}
def y3j.{u}:=@List.drop_length.{u}
def y3k.{u}:=@Option.some.inj.{u}
def y3l.{u,v}:=@Option.map_some.{u,v}
def y3m.{u}:=@List.append_nil.{u}
def y3n.{u}:=@List.length_nil.{u}
def y3o.{u}:=@List.nil_append.{u}
def y3p:=@Bool.eq_iff_iff
def y3q.{u}:=@List.mem_append.{u}
def y3r.{u}:=@List.length_set.{u}
def y3s.{u}:=@List.nodup_cons.{u}
def y3t.{u,v}:=@List.length_map.{u,v}
def y3u:=@List.range_succ
def y3v.{u,v}:=@List.map_append.{u,v}
def y3w:=@Bool.not_false
def y3x:=@List.mem_range
def y3y:=@Int.mul_nonneg
def y3z:=@Int.mul_le_mul
def y4a.{u,v}:=@List.map_cons.{u,v}
def y4b.{u}:=@List.mem_cons.{u}
def y4c:=@Nat.add_assoc
def y4d:=@Bool.not_true
def y4e.{u,v}:=@Prod.mk.injEq.{u,v}
def y4f:=@Int.ofNat.inj
def y4g:=@Go.Sem.run_bind
def y4h:=@Go.Sem.run_pure
def y4i:=@Nat.le_trans
def y4j:=@Nat.add_zero
def y4k:=@Nat.zero_add
def y4l.{u,v}:=@List.mem_map.{u,v}
def y4m:=@Nat.mul_comm
def y4n.{u,v}:=@Prod.ext_iff.{u,v}
def y4o.{u,v}:=@List.map_nil.{u,v}
def y4p:=@Int.le_trans
def y4q:=@Nat.le_refl
def y4r:=@Nat.add_mul
def y4s:=@Int.le_refl
def y4t:=@Nat.mul_one
def y4u.{u}:=@Array.ext'.{u}
def y4v:=@And.intro
abbrev Env:=List (Nat × Value)
def lk:Env→Nat→Option Value
 | [],_=>none
 | (k,v) :: r,t=>cond (Nat.beq k t) (some v) (lk r t)
def mkT:Nat:=4294967291
def lkT (env:Env) (t:Nat):Option Value:=cond (Nat.beq t mkT) none (lk env t)
theorem qg2 {env:Env} {t:Nat} {v:Value} (h:lkT env t=some v):t≠mkT∧lk env t=some v:=by
 unfold lkT at h
 cases hb:Nat.beq t mkT with
 | true=>rw[hb] at h;cases h
 | false=>rw[hb] at h;exact⟨y1c hb,h⟩
theorem qqe {env:Env} {t:Nat} {v:Value} (h1:t≠mkT) (h:lk env t=some v):lkT env t=some v:=by
 unfold lkT
 cases hb:Nat.beq t mkT with
 | true=>exact absurd (y1h hb) h1
 | false=>exact h
def ev (env:Env):Operand→Option Value
 | .tmp t=>lkT env t
 | .const v=>some v
 | .global g=>some (.pointer (some ⟨g,0,none⟩))
 | .func f=>some (.func (.func f) #[] #[])
def qdt (env:Env):List Deferred:=match lk env mkT with
 | some (.int _ D)=>[{ target := .collected D.toNat,args := #[] }]
 | _=>[]
structure Ext (n:Nat) (env:Env) (a:Act):Prop where
 defers:a.defers=qdt env
 size:a.tmps.size=n
 has:∀t v,lkT env t=some v→a.tmps[t]?=some v
theorem Ext.eval {n:Nat} {env:Env} {a:Act} (h:Ext n env a) {x:Operand} {v:Value} (hv:ev env x=some v):a.eval x=v:=by
 cases x with
 | tmp t=>simp[ev] at hv;simp[Act.eval,h.has t v hv]
 | const c=>simp[ev] at hv;simpa[Act.eval] using hv
 | global g=>simp[ev] at hv;simpa[Act.eval] using hv
 | func f=>simp[ev] at hv;simpa[Act.eval] using hv
theorem qgq (k t:Nat) (v:Value) (r:Env):lk ((k,v) :: r) t=if k=t then some v else lk r t:=by
 simp only[lk]
 cases h:Nat.beq k t with
 | true=>have:k=t:=y1h h;simp[this]
 | false=>have:k≠t:=y1c h;simp[this]
theorem Ext.put {n:Nat} {env:Env} {a:Act} (h:Ext n env a) {d:Nat} (v:Value) (hd:d<n) (hm:d≠mkT):Ext n ((d,v) :: env) (a.put (some d) v):=by
 refine⟨?_,by simpa[Act.put] using h.size,fun t u hu=>?_⟩
 ·have:qdt ((d,v) :: env)=qdt env:=by unfold qdt;rw[qgq,if_neg hm]
  rw[this]
  exact h.defers
 ·obtain⟨ht,hu⟩:=qg2 hu
  rw[qgq] at hu
  by_cases hdt:d=t
  ·subst hdt
   simp only[if_true,y2k] at hu
   subst hu
   have:=h.size
   simp[Act.put,this,hd]
  ·simp only[hdt,if_false] at hu
   have:=h.has t u (qqe ht hu)
   simp[Act.put,hdt,this]
theorem Ext.mono {n:Nat} {env env':Env} {a:Act} (h:Ext n env a) (hs:∀t v,lk env' t=some v→lk env t=some v) (hm:(lk env mkT).isSome=true→(lk env' mkT).isSome=true):Ext n env' a:=by
 refine⟨?_,h.size,fun t v hv=>?_⟩
 ·have:qdt env'=qdt env:=by
   unfold qdt
   cases h1:lk env' mkT with
   | some v=>rw[hs _ _ h1]
   | none=>
    cases h2:lk env mkT with
    | none=>rfl
    | some v=>rw[h1,h2] at hm;exact absurd (hm rfl) (by simp)
  rw[this]
  exact h.defers
 ·obtain⟨ht,hv⟩:=qg2 hv
  exact h.has t v (qqe ht (hs t v hv))
abbrev VK:=Value→World→Prop
def qer (w:World) (a:Addr) (i:Nat):Nat→Option (List Value)
 | 0=>some []
 | n+1=>match w.cell? (a.add i),qer w a (i+1) n with
  | some v,some r=>some (v :: r)
  | _,_=>none
def qkr:List Value→Nat→Addr→World→(World→Prop)→Prop
 | [],_,_,w,K=>K w
 | v :: r,i,a,w,K=>v.oneCell'=true∧(∃u,w.cell? (a.add i)=some u)∧w.frozen? (a.add i)=false∧qkr r (i+1) a (w.setCell (a.add i) v) K
def qgd (P:Program) (t:TypeId):Option Nat:=(P.info? t).map (·.size)
def ql7 (P:Program) (t:TypeId):Option Bool:=(P.underlying t).map fun d=>match d with | .struct _ | .array _ _=>true | _=>false
def qm0 (P:Program) (t:TypeId):Option Value:=(P.info? t).bind (·.zero)
def qm9 (P:Program) (s:TypeId) (f:Nat):Option Field:=match P.underlying s with | some (.struct fs)=>fs[f]? | _=>none
def qjc (P:Program) (t:TypeId):Option (Nat × TypeId):=match P.underlying t with | some (.array n e)=>some (n,e) | _=>none
def qed (P:Program) (t:TypeId):Option TypeId:=match P.underlying t with | some (.slice e)=>some e | _=>none
def C.am (c:Value) (A B:Prop):Prop:=∃t:Bool,c = .bool t∧(t=true→A)∧(t=false→B)
def C.a2 (c a b:Option Value) (w:World) (K:VK):Prop:=∃t:Bool,c=some (.bool t)∧∃v,(cond t a b)=some v∧K v w
def C.ai (p:Value) (w:World) (K:VK):Prop:=∃a v,p = .pointer (some a)∧w.cell? a=some v∧K v w
def C.an (n:Nat) (p:Value) (w:World) (K:VK):Prop:=∃a cs,p = .pointer (some a)∧qer w a 0 n=some cs∧K (.agg cs.toArray) w
def C.ak (n:Nat) (p x:Value) (w:World) (K:World→Prop):Prop:=∃a,p = .pointer (some a)∧x.cells.size=n∧qkr x.cells.toList 0 a w K
def C.a3 (o:Obj) (w:World) (K:VK):Prop:=K (.pointer (some ⟨w.heap.size,0,none⟩)) (w.alloc o)
def C.ab (off:Nat) (p:Value) (w:World) (K:VK):Prop:=∃a,p = .pointer (some a)∧K (.pointer (some (a.add off))) w
def qmo:Value→Bool
 | .pointer none | .nilIface | .nilFunc=>false
 | .func (.method _) _ _=>false
 | _=>true
def C.ae (p:Value) (w:World) (K:VK):Prop:=qmo p=true∧K p w
def qeo (op:BinOp) (k:IntKind) (a b:Int):Option Value:=
 match op with
 | .add=>some (.int k (k.wrap (a+b)))
 | .sub=>some (.int k (k.wrap (a-b)))
 | .mul=>some (.int k (k.wrap (a*b)))
 | .eql=>some (.bool (a == b))
 | .neq=>some (.bool (a != b))
 | .lss=>some (.bool (decide (a<b)))
 | .leq=>some (.bool (decide (a≤b)))
 | .gtr=>some (.bool (decide (a>b)))
 | .geq=>some (.bool (decide (a≥b)))
 | _=>none
def C.aj (op:BinOp) (x y:Value) (w:World) (K:VK):Prop:=∃k a b v,x = .int k a∧y = .int k b∧qeo op k a b=some v∧K v w
def C.bi (P:Program) (op:BinOp) (t:TypeId) (ox oy:Operand) (x y:Value) (w:World) (K:VK):Prop:=
 ∃v,(do eqGuard op t ox oy x y;binOp op t x y:Sem Value).run P w = .ok v w∧K v w
def qt5 (P:Program) (t:TypeId):Bool:=match P.underlying t with | some (.int _)=>true | _=>false
def qlp:BinOp→Bool
 | .add | .sub | .mul | .eql | .neq | .lss | .leq | .gtr | .geq=>true
 | _=>false
def C.ay (P:Program) (s:Sem Value) (w:World) (K:VK):Prop:=∃v w',s.run P w = .ok v w'∧K v w'
def C.cw (P:Program) (s:Sem Unit) (w:World) (K:World→Prop):Prop:=∃w',s.run P w = .ok () w'∧K w'
def C.bf (x:Value) (w:World) (K:VK):Prop:=∃b,x = .bool b∧K (.bool !b) w
def C.a1 (i:Nat) (x:Value) (w:World) (K:VK):Prop:=∃vs v,x = .tuple vs∧vs[i]?=some v∧K v w
def C.i (P:Program) (f:FuncId) (args:Array Value) (w:World) (K:VK):Prop:=Calls P f args w fun e w'=>∃v,e = .returned v∧K v w'
def C.bk (n:Nat) (x i:Value) (w:World) (K:VK):Prop:=
 ∃g len cap k j,x = .slice (some g) len cap∧i = .int k j∧0≤j∧j<(len:Int)∧K (.pointer (some (g.add (j.toNat*n)))) w
def C.bs (ln n:Nat) (x i:Value) (w:World) (K:VK):Prop:=
 ∃g k j,x = .pointer (some g)∧i = .int k j∧0≤j∧j<(ln:Int)∧K (.pointer (some (g.add (j.toNat*n)))) w
def C.bl (x:Value) (w:World) (K:VK):Prop:=∃g n c,x = .slice g n c∧K (.int .i64 (n:Int)) w
def C.cb (k:IntKind) (x:Value) (w:World) (K:VK):Prop:=∃k' a,x = .int k' a∧K (.int k (k.wrap a)) w
def qb7 (P : Program) (f : FuncId) : Bool := match P.funcs[f]? with | some fn => fn.body.isSome && !(fn.name == "runtime.NumGoroutine") | none => false
def qdm:List (Option Value)→Option (List Value)
 | []=>some []
 | none :: _=>none
 | some v :: r=>(qdm r).map (v :: ·)
def C.ch (P:Program) (l:Nat) (args:Array Value) (w:World) (K:VK):Prop:=YieldAt Fence.wide 0 P l args w fun e w'=>∃v,e = .returned v∧K v w'
def qbo (P:Program) (f:Value) (args:List Value) (w:World) (K:VK):Prop:=
 match f with
 | .func (.func f) first captured=>cond (qb7 P f) (C.i P f (first.toList ++ (args ++ captured.toList)).toArray w K) False
 | .func (.yield l) first _=>cond (Nat.beq first.size 0) (C.ch P l args.toArray w K) False
 | _=>False
def qhn (P:Program) (b:Builtin) (at_:Array TypeId) (ty:TypeId) (vs:List Value) (w:World) (K:VK):Prop:=
 match b with
 | .len=>match (at_[0]?).bind (qed P),vs with
  | some _,[x]=>C.bl x w K
  | _,_=>C.ay P (Builtin.len_ at_ ty vs.toArray) w K
 | .append=>C.ay P (Builtin.append_ at_ ty vs.toArray) w K
 | .copy=>C.ay P (Builtin.copy_ at_ ty vs.toArray) w K
 | .min=>C.ay P (Builtin.min_ at_ ty vs.toArray) w K
 | .max=>C.ay P (Builtin.max_ at_ ty vs.toArray) w K
 | .cap=>C.ay P (Builtin.cap_ at_ ty vs.toArray) w K
 | .delete=>C.ay P (Builtin.delete_ at_ ty vs.toArray) w K
 | .clear=>C.ay P (Builtin.clear_ at_ ty vs.toArray) w K
 | _=>False
def qlu (P:Program) (o:Oper) (ρ : Operand→Option Value) (w:World) (K:VK):Prop:=
 match o.op with
 | .move x | .assign x=>match ρ x with | some v=>K v w | none=>False
 | .pick c a b=>C.a2 (ρ c) (ρ a) (ρ b) w K
 | .alloc t=>match qm0 P t with | some z=>C.a3 (.cells z.cells t) w K | none=>False
 | .box t x=>match ρ x with | some v=>C.a3 (.cells v.cells t) w K | none=>False
 | .load t x=>match ρ x,ql7 P t,qgd P t with
  | some p,some true,some n=>C.an n p w K
  | some p,some false,_=>C.ai p w K
  | _,_,_=>False
 | .store t x y=>match ρ x, ρ y,qgd P t with
  | some p,some v,some n=>C.ak n p v w (K undef)
  | _,_,_=>False
 | .nilCheck x=>match ρ x with | some p=>C.ae p w K | none=>False
 | .binOp op t x y _=>match ρ x, ρ y with
  | some a,some b=>cond (qt5 P t && qlp op) (C.aj op a b w K) (C.bi P op t x y a b w K)
  | _,_=>False
 | .unOp .not _ x=>match ρ x with | some a=>C.bf a w K | none=>False
 | .unOp op _ x=>match ρ x with | some a=>C.ay P (Op.unary op a) w K | none=>False
 | .convert s t x=>match ρ x with
  | some a=>match P.underlying s,P.underlying t with
   | some (.int _),some (.int k)=>C.cb k a w K
   | _,_=>C.ay P (convert s t a) w K
  | none=>False
 | .fieldAddr s x f=>match ρ x,qm9 P s f with
  | some p,some fl=>match qgd P fl.type with
   | some (_+1)=>C.ab fl.offset p w K
   | _=>False
  | _,_=>False
 | .indexAddr t x i=>match ρ x, ρ i,qed P t with
  | some a,some b,some e=>match qgd P e with
   | some n=>C.bk n a b w K
   | none=>False
  | some a,some b,none=>match qjc P t with
   | some (ln,e)=>match qgd P e with
    | some n=>C.bs ln n a b w K
    | none=>False
   | none=>False
  | _,_,_=>False
 | .extract x i=>match ρ x with | some a=>C.a1 i a w K | none=>False
 | .makeFunc fn first captured=>match qdm (first.toList.map ρ),qdm (captured.toList.map ρ) with
  | some l,some m=>K (.func fn l.toArray m.toArray) w
  | _,_=>False
 | .build t parts=>match qdm (parts.toList.map fun p => ρ p.2) with
  | some vs=>C.ay P (Instr.build t ((parts.toList.map (·.1)).zip vs).toArray) w K
  | none=>False
 | .buildSlice t n parts=>match qdm (parts.toList.map fun p => ρ p.2) with
  | some vs=>C.ay P (Instr.buildSlice t n ((parts.toList.map (·.1)).zip vs).toArray) w K
  | none=>False
 | .makeSlice t l c=>match ρ l, ρ c with | some a,some b=>C.ay P (Instr.makeSlice t a b) w K | _,_=>False
 | .makeMap t none=>C.ay P (Instr.makeMap t none) w K
 | .makeInterface t x=>match ρ x with | some a=>C.ay P (Instr.makeInterface t a) w K | none=>False
 | .slice t x lo hi none=>match ρ x,lo.map ρ,hi.map ρ with
  | some _,some none,_=>False
  | some _,_,some none=>False
  | some a,l,h=>C.ay P (Instr.sliceAt t a (l.bind id) (h.bind id) none) w K
  | none,_,_=>False
 | .slice t x (some lo) (some hi) (some mx)=>match ρ x, ρ lo, ρ hi, ρ mx with
  | some a,some l,some h,some m=>C.ay P (Instr.sliceAt t a (some l) (some h) (some m)) w K
  | _,_,_,_=>False
 | .field t x f=>match ρ x with | some a=>C.ay P (Instr.field t a f) w K | none=>False
 | .index t x i=>match ρ x, ρ i with | some a,some b=>C.ay P (Instr.index t a b) w K | _,_=>False
 | .lookup t x i ok=>match ρ x, ρ i with | some a,some b=>C.ay P (Instr.lookup t a b ok) w K | _,_=>False
 | .mapUpdate t m k x=>match ρ m, ρ k, ρ x with | some a,some b,some c=>C.cw P (Instr.mapUpdate t a b c) w (K undef) | _,_,_=>False
 | .range t x=>match ρ x with | some a=>C.ay P (Instr.range t a) w K | none=>False
 | .next it s=>match ρ it with | some a=>C.ay P (Instr.next a s o.type) w K | none=>False
 | .entry it=>match ρ it with | some a=>C.ay P (Instr.entry a) w K | none=>False
 | .call c=>match qdm (c.args.toList.map ρ) with
  | none=>False
  | some vs=>match c.callee with
   | .value f=>match ρ f with | some fv=>qbo P fv vs w K | none=>False
   | .builtin b=>qhn P b c.argTypes o.type vs w K
   | _=>False
 | _=>False
def qc9 (ρ : Operand→Value) (o:Oper):Bool:=match o.op with
 | .call { callee := .value f, .. }=>match ρ f with
  | .func (.yield _) _ _=>true
  | _=>false
 | _=>false
def qi8 (P:Program) (o:Oper) (a:Act) (w:World) (K:VK):Prop:=
 (∃v w',(execOp a.eval o).run P w = .ok (.value v) w'∧K v w')∨
 (∃w',(execOp a.eval o).run P w = .ok .skip w'∧K undef w')∨
 (∃f args,(execOp a.eval o).run P w = .ok (.enter f args) w∧C.i P f args w K)∨
 (qc9 a.eval o=true∧∃l f tmps as bd,(execOp a.eval o).run P w = .ok (.round l f tmps as bd) w∧RoundIn Fence.wide 0 P l f tmps as bd w fun e w'=>∃v,e = .returned v∧K v w')
def qsw (o:Oper):Prop:=∀c,o.op ≠ .defer c
def Fc (r:Option Nat):Fence:={ Fence.wide with round:=r }
theorem qi8.wp {P:Program} {o:Oper} {a:Act} {w:World} {K:VK} {Q:Exit→Act→World→Prop} {K':Act→World→Prop} (hc:qc9 a.eval o=false)
  (h:qi8 P o a w K) (hk:∀v w',K v w'→K' (a.put o.dst v) w'):o.wp P a w K' Q:=by
 unfold Oper.wp
 rcases h with⟨v,w',hr,h⟩ | ⟨w',hr,h⟩ | ⟨f,args,hr,h⟩ | ⟨hn,_⟩
 ·rw[hr];exact hk _ _ h
 ·rw[hr];exact hk _ _ h
 ·rw[hr]
  refine h.mono ?_
  rintro e w' ⟨v,rfl,h⟩
  exact hk _ _ h
 ·rw[hc] at hn;cases hn
theorem qi8.wpIn {P:Program} {r:Option Nat} {o:Oper} {a:Act} {w:World} {K:VK} {Q:Exit→Act→World→Prop} {K':Act→World→Prop} (hd:qsw o)
  (h:qi8 P o a w K) (hk:∀v w',K v w'→K' (a.put o.dst v) w'):o.wpIn (Fc r) 0 P a w K' Q:=by
 refine⟨fun _ _=>trivial,?_⟩
 have hs:o.semAt (Fc r).round a.eval=execOp a.eval o:=by
  cases r with
  | none=>rfl
  | some l=>exact Oper.semAt_some l _ o hd
 rw[hs]
 rcases h with⟨v,w',hr,h⟩ | ⟨w',hr,h⟩ | ⟨f,args,hr,h⟩ | ⟨_,l,f,tmps,as,bd,hr,h⟩
 ·rw[hr];exact hk _ _ h
 ·rw[hr];exact hk _ _ h
 ·rw[hr]
  refine⟨fun h=>by simp[Fc,Fence.wide] at h,?_⟩
  have h':CallsIn Fence.wide 0 P f args w fun e w'=>∃v,e = .returned v∧K v w':=callsIn_wide.2 h
  have h'':CallsIn (Fc r) 0 P f args w fun e w'=>∃v,e = .returned v∧K v w':=h'
  refine h''.mono ?_
  rintro e w' ⟨v,rfl,h⟩
  exact hk _ _ h
 ·rw[hr]
  refine⟨fun h=>by simp[Fc,Fence.wide] at h,?_⟩
  have h'':RoundIn (Fc r) 0 P l f tmps as bd w fun e w'=>∃v,e = .returned v∧K v w':=h
  refine h''.mono ?_
  rintro e w' ⟨v,rfl,h⟩
  exact hk _ _ h
theorem qd7 {ρ : Operand→Option Value} {f:Operand→Value} (hρ : ∀x v, ρ x=some v→f x=v):∀(l:List Operand) (vs:List Value),qdm (l.map ρ)=some vs→l.map f=vs
 | [],vs,h=>by simp[qdm] at h;simp[h]
 | x :: l,vs,h=>by
  simp only[y4a] at h
  cases hx : ρ x with
  | none=>simp[hx,qdm] at h
  | some v=>
   simp only[hx,qdm,y1d] at h
   obtain⟨r,hr,rfl⟩:=h
   simp[hρ x v hx,qd7 hρ l r hr]
theorem qfv (P:Program) (w:World) (a:Addr):∀(n i:Nat) (acc:Array Value) (cs:List Value),qer w a i n=some cs→
  (loadCellsFrom a i n acc).run P w = .ok (acc ++ cs.toArray) w
 | 0,i,acc,cs,h=>by simp[qer] at h;subst h;simp[loadCellsFrom]
 | n+1,i,acc,cs,h=>by
  simp only[qer] at h
  split at h
  ·rename_i v r h1 h2
   simp only[y2k] at h
   subst h
   simp only[loadCellsFrom,y4g,run_load,h1,y2m]
   rw[qfv P w a n (i+1) _ r h2]
   simp
  ·cases h
theorem qk8 (P:Program):∀(l:List Value) (i:Nat) (a:Addr) (w:World) (K:World→Prop),qkr l i a w K→
  ∃w',(storeCells a l i).run P w = .ok () w'∧K w'
 | [],i,a,w,K,h=>⟨w,by simp[storeCells],h⟩
 | v :: l,i,a,w,K,h=>by
  obtain⟨h1,⟨u,h2⟩,h3,h4⟩:=h
  obtain⟨w',hr,hk⟩:=qk8 P l (i+1) a _ K h4
  refine⟨w',?_,hk⟩
  simp only[storeCells,y4g,run_store P w (a.add i) v _ h1,h2,h3]
  simpa using hr
section
variable {P:Program} {w:World} {t:TypeId}
theorem qb5 {n:Nat} (h:qgd P t=some n):(sizeOf t).run P w = .ok n w:=by
 simp only[qgd,y1d] at h
 obtain⟨i,hi,rfl⟩:=h
 simp[sizeOf,typeInfo,hi]
theorem qmt {z:Value} (h:qm0 P t=some z):(zeroValue t).run P w = .ok z w:=by
 simp only[qm0,Option.bind_eq_some_iff] at h
 obtain⟨i,hi,hz⟩:=h
 simp[zeroValue,typeInfo,hi,hz]
theorem qe4 {b:Bool} (h:ql7 P t=some b):(isAgg t).run P w = .ok b w:=by
 simp only[ql7,y1d] at h
 obtain⟨d,hd,rfl⟩:=h
 cases d <;> simp[isAgg,underlying,hd]
theorem qat (op:BinOp) (ox oy:Operand) (k k':IntKind) (a b:Int):(eqGuard op t ox oy (.int k a) (.int k' b)).run P w = .ok () w:=by
 unfold eqGuard
 cases op <;> simp
theorem qi6 {op:BinOp} {k:IntKind} {a b:Int} {v:Value} (h:qeo op k a b=some v):(binOp op t (.int k a) (.int k b)).run P w = .ok v w:=by
 cases op <;> simp only[qeo,y2k] at h <;> first | cases h | skip
 all_goals (first | subst h | skip)
 all_goals simp[binOp,Op.intArith,Op.intCmp]
end
theorem qfu {ρ : Operand→Option Value} {f:Operand→Value} (hρ : ∀x v, ρ x=some v→f x=v):∀(l:List (Nat × Operand)) (vs:List Value),qdm (l.map fun p => ρ p.2)=some vs→
  l.map (fun p=>(p.1,f p.2))=(l.map (·.1)).zip vs
 | [],vs,h=>by simp[qdm] at h;subst h;rfl
 | x :: l,vs,h=>by
  simp only[y4a] at h
  cases hx : ρ x.2 with
  | none=>simp[hx,qdm] at h
  | some v=>
   simp only[hx,qdm,y1d] at h
   obtain⟨r,hr,rfl⟩:=h
   simp[hρ _ _ hx,qfu hρ l r hr]
theorem qop {P:Program} {b:Builtin} {at_:Array TypeId} {ty:TypeId} {consts:Array Bool} {vs:List Value} {w:World} {K:VK} (h:qhn P b at_ ty vs w K):
  ∃v w',(builtin b at_ ty consts vs.toArray).run P w = .ok (.value v) w'∧K v w':=by
 cases b <;> simp only[qhn] at h <;> try exact h.elim
 case len=>
  split at h
  ·rename_i e x he
   obtain⟨g,n,c,rfl,hk⟩:=h
   refine⟨_,w,?_,hk⟩
   simp only[Option.bind_eq_some_iff] at he
   obtain⟨t,h0,he⟩:=he
   have hs:P.underlying t=some (.slice e):=by
    unfold qed at he
    split at he
    ·cases he;assumption
    ·cases he
   simp[builtin,Builtin.len_,h0,underlying,hs,goInt]
  ·obtain⟨v,w',hr,hk⟩:=h
   exact⟨v,w',by simp only[builtin,y4g,hr];rfl,hk⟩
 all_goals
  obtain⟨v,w',hr,hk⟩:=h
  exact⟨v,w',by simp only[builtin,y4g,hr];rfl,hk⟩
theorem qi2 {P:Program} {o:Oper} {ρ : Operand→Option Value} {a:Act} {w:World} {K:VK} (hρ : ∀x v, ρ x=some v→a.eval x=v)
  (h:qlu P o ρ w K):qi8 P o a w K:=by
 obtain⟨dst,op,type,pos,after,guard⟩:=o
 cases op <;> simp only[qlu] at h <;> try exact h.elim
 case move x=>
  split at h
  ·rename_i v hv;exact .inl ⟨v,w,by simp[execOp,hρ x v hv],h⟩
  ·exact h.elim
 case assign x=>
  split at h
  ·rename_i v hv;exact .inl ⟨v,w,by simp[execOp,hρ x v hv],h⟩
  ·exact h.elim
 case pick c x y=>
  obtain⟨t,hc,v,hv,hk⟩:=h
  refine .inl ⟨v,w,?_,hk⟩
  have hc':=hρ c _ hc
  cases t with
  | true=>have:=hρ x _ hv;simp[execOp,hc',asBool,this]
  | false=>have:=hρ y _ hv;simp[execOp,hc',asBool,this]
 case alloc t=>
  split at h
  ·rename_i z hz
   exact .inl ⟨_,_,by simp[execOp,Instr.alloc,qmt hz,newVar,newRow],h⟩
  ·exact h.elim
 case box t x=>
  split at h
  ·rename_i v hv
   exact .inl ⟨_,_,by simp[execOp,Instr.box,hρ x v hv,newVar,newRow],h⟩
  ·exact h.elim
 case build t parts=>
  split at h
  ·rename_i vs hvs
   obtain⟨v,w',hr,hk⟩:=h
   refine .inl ⟨v,w',?_,hk⟩
   have:=qfu hρ _ _ hvs
   have hp:(parts.map fun (i,x)=>(i,a.eval x))=((parts.toList.map (·.1)).zip vs).toArray:=by
    rw[←this];apply y4u ;simp
   simp only[execOp,hp,y4g,hr];rfl
  ·exact h.elim
 case buildSlice t n parts=>
  split at h
  ·rename_i vs hvs
   obtain⟨v,w',hr,hk⟩:=h
   refine .inl ⟨v,w',?_,hk⟩
   have:=qfu hρ _ _ hvs
   have hp:(parts.map fun (i,x)=>(i,a.eval x))=((parts.toList.map (·.1)).zip vs).toArray:=by
    rw[←this];apply y4u ;simp
   simp only[execOp,hp,y4g,hr];rfl
  ·exact h.elim
 case load t x=>
  split at h
  ·rename_i p n hp hag hn
   obtain⟨ad,cs,rfl,hc,hk⟩:=h
   refine .inl ⟨_,w,?_,hk⟩
   simp[execOp,Instr.loadAt,Instr.sureAddr,hρ x _ hp,loadVar,qe4 hag,qb5 hn,loadCells,qfv P w ad n 0 #[] cs hc]
  ·rename_i p q hp hag
   obtain⟨ad,v,rfl,hc,hk⟩:=h
   refine .inl ⟨v,w,?_,hk⟩
   simp[execOp,Instr.loadAt,Instr.sureAddr,hρ x _ hp,loadVar,qe4 hag,hc]
  ·exact h.elim
 case store t x y=>
  split at h
  ·rename_i p v n hp hv hn
   obtain⟨ad,rfl,hs,hk⟩:=h
   obtain⟨w',hr,hk'⟩:=qk8 P _ _ _ _ _ hk
   refine .inr (.inl ⟨w',?_,hk'⟩)
   simp[execOp,Instr.storeAt,Instr.sureAddr,hρ x _ hp,hρ y _ hv,storeVar,qb5 hn,hs,hr]
  ·exact h.elim
 case nilCheck x=>
  split at h
  ·rename_i p hp
   obtain⟨hn,hk⟩:=h
   refine .inl ⟨p,w,?_,hk⟩
   have hx:=hρ x _ hp
   cases p <;> simp_all [execOp,qmo]
   case pointer ad=>cases ad <;> simp_all
   case func fn _ _=>cases fn <;> simp_all
  ·exact h.elim
 case binOp op t x y yt=>
  split at h
  ·rename_i u v hu hv
   have e1:=hρ x _ hu
   have e2:=hρ y _ hv
   cases hb:(qt5 P t && qlp op) with
   | true=>
    rw[hb] at h
    obtain⟨k,m,n,r,rfl,rfl,hr,hk⟩:=h
    refine .inl ⟨r,w,?_,hk⟩
    simp[execOp,e1,e2,qat,qi6 hr]
   | false=>
    rw[hb] at h
    obtain⟨r,hr,hk⟩:=h
    refine .inl ⟨r,w,?_,hk⟩
    simp only[execOp,e1,e2]
    simp only[y4g] at hr ⊢
    rw[hr];rfl
  ·exact h.elim
 case unOp op t x=>
  cases op with
  | not=>
   simp only at h
   split at h
   ·rename_i u hu
    obtain⟨b,rfl,hk⟩:=h
    exact .inl ⟨_,w,by simp[execOp,hρ x _ hu,Op.unary],hk⟩
   ·exact h.elim
  | _=>
   simp only at h
   split at h
   ·rename_i u hu
    obtain⟨v,w',hr,hk⟩:=h
    exact .inl ⟨v,w',by simp only[execOp,hρ x _ hu,y4g,hr];rfl,hk⟩
   ·exact h.elim
 case convert s t x=>
  split at h
  ·rename_i u hu
   split at h
   ·rename_i k hs ht
    obtain⟨k',n,rfl,hk⟩:=h
    refine .inl ⟨_,w,?_,hk⟩
    simp[execOp,hρ x _ hu,convert,underlying,hs,ht,Conv.intToInt]
   ·obtain⟨v,w',hr,hk⟩:=h
    exact .inl ⟨v,w',by simp only[execOp,hρ x _ hu,y4g,hr];rfl,hk⟩
  ·exact h.elim
 case makeInterface t x=>
  split at h
  ·rename_i u hu
   obtain⟨v,w',hr,hk⟩:=h
   exact .inl ⟨v,w',by simp only[execOp,hρ x _ hu,y4g,hr];rfl,hk⟩
  ·exact h.elim
 case makeFunc fn first captured=>
  split at h
  ·rename_i l m hl hm
   refine .inl ⟨_,w,?_,h⟩
   have h1:=qd7 hρ _ _ hl
   have h2:=qd7 hρ _ _ hm
   have h1':first.map a.eval=l.toArray:=by rw[←h1];apply y4u;simp
   have h2':captured.map a.eval=m.toArray:=by rw[←h2];apply y4u;simp
   simp[execOp,Instr.makeFunc,h1',h2']
  ·exact h.elim
 case makeMap t r=>
  cases r with
  | none=>
   obtain⟨v,w',hr,hk⟩:=h
   exact .inl ⟨v,w',by simp only[execOp,Option.map_none,y4g,hr];rfl,hk⟩
  | some _=>exact h.elim
 case makeSlice t l c=>
  split at h
  ·rename_i u u' hu hu'
   obtain⟨v,w',hr,hk⟩:=h
   exact .inl ⟨v,w',by simp only[execOp,hρ l _ hu,hρ c _ hu',y4g,hr];rfl,hk⟩
  ·exact h.elim
 case slice t x lo hi mx=>
  cases mx with
  | some mx=>
   cases lo with
   | none=>exact h.elim
   | some lo=>
    cases hi with
    | none=>exact h.elim
    | some hi=>
     simp only at h
     split at h
     ·rename_i u l r m hu h1 h2 h3
      obtain⟨v,w',hr,hk⟩:=h
      exact .inl ⟨v,w',by simp only[execOp,hρ x _ hu,y3l,hρ lo _ h1,hρ hi _ h2,hρ mx _ h3,y4g,hr];rfl,hk⟩
     ·exact h.elim
  | none=>
   simp only at h
   have hlo:∀l,lo.map ρ = l→l≠some none→lo.map a.eval=l.bind id:=by
    intro l hl hne
    cases lo with
    | none=>simp at hl;subst hl;rfl
    | some q=>
     simp at hl;subst hl
     cases hq : ρ q with
     | none=>simp[hq] at hne
     | some z=>simp[hρ q z hq]
   have hhi:∀l,hi.map ρ = l→l≠some none→hi.map a.eval=l.bind id:=by
    intro l hl hne
    cases hi with
    | none=>simp at hl;subst hl;rfl
    | some q=>
     simp at hl;subst hl
     cases hq : ρ q with
     | none=>simp[hq] at hne
     | some z=>simp[hρ q z hq]
   split at h
   ·exact h.elim
   ·exact h.elim
   ·rename_i u l r hu h1 h2
    obtain⟨v,w',hr,hk⟩:=h
    refine .inl ⟨v,w',?_,hk⟩
    have e1:=hlo _ rfl (by assumption)
    have e2:=hhi _ rfl (by assumption)
    simp only[execOp,hρ x _ hu,e1,e2,Option.map_none,y4g,hr];rfl
   ·exact h.elim
 case fieldAddr s x f=>
  split at h
  ·rename_i p fl hp hf
   split at h
   ·rename_i n hn
    obtain⟨ad,rfl,hk⟩:=h
    refine .inl ⟨_,w,?_,hk⟩
    have hs:∃fs,P.underlying s=some (.struct fs)∧fs[f]?=some fl:=by
     unfold qm9 at hf
     split at hf
     ·exact⟨_, ‹_›,hf⟩
     ·cases hf
    obtain⟨fs,hs,hfs⟩:=hs
    simp[execOp,Instr.fieldAt,underlying,hs,hfs,Instr.sureAddr,hρ x _ hp,fieldPlace,qb5 hn]
   ·exact h.elim
  ·exact h.elim
 case field t x f=>
  split at h
  ·rename_i u hu
   obtain⟨v,w',hr,hk⟩:=h
   exact .inl ⟨v,w',by simp only[execOp,hρ x _ hu,y4g,hr];rfl,hk⟩
  ·exact h.elim
 case indexAddr t x i=>
  split at h
  ·rename_i u u' e hu hu' he
   split at h
   ·rename_i n hn
    obtain⟨g,len,cap,k,j,rfl,rfl,h0,h1,hk⟩:=h
    refine .inl ⟨_,w,?_,hk⟩
    have hs:P.underlying t=some (.slice e):=by
     unfold qed at he
     split at he
     ·cases he;assumption
     ·cases he
    simp[execOp,Instr.indexAt,asIntOf,underlying,hs,hρ x _ hu,hρ i _ hu',h0,h1,qb5 hn]
   ·exact h.elim
  ·rename_i u u' hu hu' he
   split at h
   ·rename_i ln e ha
    split at h
    ·rename_i n hn
     obtain⟨g,k,j,rfl,rfl,h0,h1,hk⟩:=h
     refine .inl ⟨_,w,?_,hk⟩
     have hs:P.underlying t=some (.array ln e):=by
      unfold qjc at ha
      split at ha
      ·cases ha;assumption
      ·cases ha
     simp[execOp,Instr.indexAt,asIntOf,Instr.sureAddr,underlying,hs,hρ x _ hu,hρ i _ hu',h0,h1,qb5 hn]
    ·exact h.elim
   ·exact h.elim
  ·exact h.elim
 case index t x i=>
  split at h
  ·rename_i u u' hu hu'
   obtain⟨v,w',hr,hk⟩:=h
   exact .inl ⟨v,w',by simp only[execOp,hρ x _ hu,hρ i _ hu',y4g,hr];rfl,hk⟩
  ·exact h.elim
 case lookup t x i ok=>
  split at h
  ·rename_i u u' hu hu'
   obtain⟨v,w',hr,hk⟩:=h
   exact .inl ⟨v,w',by simp only[execOp,hρ x _ hu,hρ i _ hu',y4g,hr];rfl,hk⟩
  ·exact h.elim
 case mapUpdate t m k x=>
  split at h
  ·rename_i u u' u'' hu hu' hu''
   obtain⟨w',hr,hk⟩:=h
   exact .inr (.inl ⟨w',by simp only[execOp,hρ m _ hu,hρ k _ hu',hρ x _ hu'',y4g,hr];rfl,hk⟩)
  ·exact h.elim
 case range t x=>
  split at h
  ·rename_i u hu
   obtain⟨v,w',hr,hk⟩:=h
   exact .inl ⟨v,w',by simp only[execOp,hρ x _ hu,y4g,hr];rfl,hk⟩
  ·exact h.elim
 case next it s=>
  split at h
  ·rename_i u hu
   obtain⟨v,w',hr,hk⟩:=h
   exact .inl ⟨v,w',by simp only[execOp,hρ it _ hu,y4g,hr];rfl,hk⟩
  ·exact h.elim
 case entry it=>
  split at h
  ·rename_i u hu
   obtain⟨v,w',hr,hk⟩:=h
   exact .inl ⟨v,w',by simp only[execOp,hρ it _ hu,y4g,hr];rfl,hk⟩
  ·exact h.elim
 case extract x i=>
  split at h
  ·rename_i u hu
   obtain⟨vs,v,rfl,hv,hk⟩:=h
   exact .inl ⟨v,w,by simp[execOp,Instr.extract,hρ x _ hu,hv],hk⟩
  ·exact h.elim
 case call c=>
  obtain⟨callee,args,argTypes⟩:=c
  simp only at h
  cases hvs:qdm (args.toList.map ρ) with
  | none=>rw[hvs] at h;exact h.elim
  | some vs=>
   rw[hvs] at h
   have hargs:=qd7 hρ _ _ hvs
   have hargs':args.map a.eval=vs.toArray:=by rw[←hargs];apply y4u;simp
   cases callee with
   | value f=>
    simp only at h
    split at h
    ·rename_i fv hf
     unfold qbo at h
     split at h
     ·rename_i f' first captured
      cases hb:qb7 P f' with
      | false=>rw[hb] at h;exact h.elim
      | true=>
       rw[hb] at h
       refine .inr (.inr (.inl ⟨f',_,?_,h⟩))
       unfold qb7 at hb
       split at hb
       ·rename_i fn hfn
        simp only[y2y,y2n] at hb
        obtain⟨hb1,hb2⟩:=hb
        have hb3:fn.body.isNone=false:=by cases hq:fn.body <;> simp_all
        have ha:(first ++ vs.toArray) ++ captured=(first.toList ++ (vs ++ captured.toList)).toArray:=by apply y4u;simp
        simp only[execOp,resolve,Deferred.ofValue,hρ f _ hf,hargs',invoke,callFunc,y4g,y4h,y2m,run_program,hfn,hb2,hb3,y2b,if_false,ha]
       ·cases hb
     ·rename_i l first captured
      cases hb:Nat.beq first.size 0 with
      | false=>rw[hb] at h;exact h.elim
      | true=>
      rw[hb] at h
      have hfe:first = #[]:=Array.eq_empty_of_size_eq_zero (y1h hb)
      subst hfe
      obtain⟨fn,tmps,as,bd,hy,hr⟩:=h
      have hcalm:qc9 a.eval { dst:=dst,op := .call { callee := .value f,args:=args,argTypes:=argTypes },type:=type,pos:=pos,after:=after,guard:=guard }=true:=by
       simp only[qc9,hρ f _ hf]
      refine .inr (.inr (.inr ⟨hcalm,l,fn,tmps,as,bd,?_,hr⟩))
      simp only[execOp,resolve,Deferred.ofValue,hρ f _ hf,hargs',invoke,y4g,y4h,y2m,Array.empty_append]
      exact hy
     ·exact h.elim
    ·exact h.elim
   | builtin b=>
    obtain⟨v,w',hr,hk⟩:=qop (consts:=args.map fun | .const _=>true | _=>false) h
    refine .inl ⟨v,w',?_,hk⟩
    simp only[execOp,resolve,hargs',invoke,y4g,y4h,y2m]
    exact hr
   | invoke r m=>exact h.elim
theorem qj8 {P:Program} {o:Oper} {ρ : Operand→Option Value} {w:World} {K:VK} (h:qlu P o ρ w K):qsw o:=by
 obtain⟨dst,op,type,pos,after,guard⟩:=o
 intro c hc
 simp only at hc
 subst hc
 exact h
abbrev EK:=Env→World→Prop
def putE (dst:Option Tmp) (v:Value) (env:Env):Env:=match dst with | some d=>(d,v) :: env | none=>env
def C.cm (want:Bool) (v:Value) (A B:Prop):Prop:=(v = .bool want→A)∧(v ≠ .bool want→B)
def C.q (want:Bool) (v:Value) (F:VK→Prop) (w:World) (K:VK):Prop:=C.cm want v (F K) (K undef w)
def qkq (ops:Array Oper) (o:Oper) (env:Env) (F:VK→Prop) (w:World) (K:VK):Prop:=
 match o.guard with
 | none=>F K
 | some (j,want)=>match (ops[j]?).bind (·.dst) with
  | some t=>match lkT env t with
   | some v=>C.q want v F w K
   | none=>False
  | none=>False
def qh7 (P:Program) (ops:Array Oper) (o:Oper) (env:Env) (w:World) (K:EK):Prop:=
 qkq ops o env (fun K=>qlu P o (ev env) w K) w (fun v w'=>K (putE o.dst v env) w')
def qq6 (P:Program) (ops:Array Oper):List Oper→Env→World→EK→Prop
 | [],env,w,K=>K env w
 | o :: l,env,w,K=>qh7 P ops o env w fun env' w'=>qq6 P ops l env' w' K
def qkf (n:Nat) (ops:List Oper):Bool:=ops.all fun o=>match o.dst with | some d=>Nat.blt d n && !(Nat.beq d mkT) | none=>true
def qdf (n:Nat) (Q:Exit→Env→World→Prop):Exit→Act→World→Prop
 | .panic _,_,_=>False
 | .outgrown,_,_=>False
 | e,a,w=>∃env,Ext n env a∧Q e env w
def dOk (n:Nat) (o:Oper):Prop:=∀d,o.dst=some d→d<n∧d≠mkT
theorem Ext.putE {n:Nat} {env:Env} {a:Act} (h:Ext n env a) {o:Oper} (hd:dOk n o) (v:Value):Ext n (putE o.dst v env) (a.put o.dst v):=by
 cases hq:o.dst with
 | none=>exact h
 | some d=>exact h.put v (hd d hq).1 (hd d hq).2
theorem Ext.yielded {n:Nat} {env:Env} {a:Act} (h:Ext n env a) {ops:Array Oper} {j t:Nat} {v:Value} (hj:(ops[j]?).bind (·.dst)=some t) (hv:lkT env t=some v) (want:Bool):
  (Go.yielded ops a.tmps j == some want)=true↔v = .bool want:=by
 unfold Go.yielded
 rw[hj]
 simp only[Option.bind_some,h.has t v hv]
 cases v <;> simp
theorem qho {n:Nat} {env:Env} {a:Act} (h:Ext n env a) {ops:Array Oper} {o:Oper} {F:VK→Prop} {w:World} {K:VK} (hv:qkq ops o env F w K):
  (Region.wanted o (yielded ops a.tmps)=true∧F K)∨(Region.wanted o (yielded ops a.tmps)=false∧K undef w):=by
 unfold qkq at hv
 cases hg:o.guard with
 | none=>rw[hg] at hv;exact .inl ⟨by simp[Region.wanted,hg],hv⟩
 | some g=>
  obtain⟨j,want⟩:=g
  rw[hg] at hv
  simp only at hv
  split at hv
  ·rename_i t ht
   split at hv
   ·rename_i v hl
    have hy:=h.yielded ht hl want
    by_cases hb:v = .bool want
    ·exact .inl ⟨by simp[Region.wanted,hg];simpa using hy.2 hb,hv.1 hb⟩
    ·refine .inr ⟨?_,hv.2 hb⟩
     have:¬(Go.yielded ops a.tmps j == some want)=true:=fun e=>hb (hy.1 e)
     simpa[Region.wanted,hg] using this
   ·exact hv.elim
  ·exact hv.elim
theorem qg9 {P:Program} {r:Option Nat} {n:Nat} {ops:Array Oper} {Q:Exit→Env→World→Prop}:∀(l:List Oper) (env:Env) (a:Act) (w:World),(∀o∈l,dOk n o)→Ext n env a→
  qq6 P ops l env w (fun env' w'=>Q .normal env' w')→wpListIn (Fc r) 0 P ops (qdf n Q) l a w
 | [],env,a,w,_,he,h=>⟨env,he,h⟩
 | o :: l,env,a,w,hd,he,h=>by
  unfold wpListIn
  have hd0:=hd o (by simp)
  rcases qho he h with⟨hw,h1⟩ | ⟨hw,h1⟩
  ·rw[if_pos hw]
   refine qi8.wpIn (qj8 h1) (qi2 (fun x v hv=>he.eval hv) h1) ?_
   intro v w' hk
   exact qg9 l _ _ _ (fun o' ho'=>hd o' (by simp[ho'])) (he.putE hd0 v) hk
  ·rw[if_neg (by simp[hw])]
   exact⟨fun _ _=>trivial,qg9 l _ _ _ (fun o' ho'=>hd o' (by simp[ho'])) (he.putE hd0 undef) h1⟩
theorem qie {n:Nat} {l:List Oper} (h:qkf n l=true):∀o∈l,dOk n o:=by
 intro o ho d hd
 unfold qkf at h
 rw[y2x] at h
 have:=h o ho
 rw[hd] at this
 simp only[y2y,y2n] at this
 exact⟨by simpa[Nat.blt_eq] using this.1,y1c this.2⟩
inductive Plan where
 | fin
 | take (i:Nat) (p:Plan)
 | go (i:Nat) (p rest:Plan)
 deriving Inhabited
def qbf (ops:Array Oper):Plan→Option (List Nat)→Array Bool→Bool
 | .fin,none,listed=>(Region.ready .any ops listed).isEmpty
 | .fin,some rs,_=>rs.isEmpty
 | .take i p,none,listed=>(Region.ready .any ops listed).contains i && Region.free .any ops listed i && qbf ops p none (listed.setIfInBounds i true)
 | .take _ _,some _,_=>false
 | .go i p q,none,listed=>match Region.ready .any ops listed with
  | j :: rs=>Nat.beq j i && qbf ops p none (listed.setIfInBounds i true) && qbf ops q (some rs) listed
  | []=>false
 | .go i p q,some (j :: rs),listed=>Nat.beq j i && qbf ops p none (listed.setIfInBounds i true) && qbf ops q (some rs) listed
 | .go _ _ _,some [],_=>false
def qhp (P:Program) (o:Oper):Bool:=
 match o.op with
 | .move _ | .assign _ | .pick .. | .nilCheck _ | .fieldAddr .. | .indexAddr .. | .extract .. | .makeFunc .. => true
 | .binOp op t _ _ _=>qt5 P t && qlp op
 | .unOp .not _ _=>true
 | .convert s t _=>match P.underlying s,P.underlying t with | some (.int _),some (.int _)=>true | _,_=>false
 | .call { callee := .builtin .len,args,argTypes }=>((argTypes[0]?).bind (qed P)).isSome && Nat.beq args.size 1
 | _=>false
def C.aq (S:World→Prop) (p:Value) (w:World) (K:VK):Prop:=∃a v,p = .pointer (some a)∧(∀w',S w'→w'.cell? a=some v)∧K v w
def C.bm (S:World→Prop) (n:Nat) (p:Value) (w:World) (K:VK):Prop:=∃a cs,p = .pointer (some a)∧(∀w',S w'→qer w' a 0 n=some cs)∧K (.agg cs.toArray) w
def qq7 (P:Program) (S:World→Prop) (o:Oper) (ρ : Operand→Option Value) (w:World) (K:VK):Prop:=
 cond (qhp P o) (qlu P o ρ w K) (match o.op with
  | .load t x=>match ρ x,ql7 P t,qgd P t with
   | some p,some true,some n=>C.bm S n p w K
   | some p,some false,_=>C.aq S p w K
   | _,_,_=>False
  | .binOp op t x y _=>match ρ x, ρ y with
   | some a,some b=>∃v,(∀w',S w'→(do eqGuard op t x y a b;binOp op t a b:Sem Value).run P w' = .ok v w')∧K v w
   | _,_=>False
  | .build t parts=>match qdm (parts.toList.map fun p => ρ p.2) with
   | some vs=>∃v,(∀w',S w'→(Instr.build t ((parts.toList.map (·.1)).zip vs).toArray).run P w' = .ok v w')∧K v w
   | none=>False
  | .slice t x lo hi none=>match ρ x,lo.map ρ,hi.map ρ with
   | some _,some none,_=>False
   | some _,_,some none=>False
   | some a,l,h=>∃v,(∀w',S w'→(Instr.sliceAt t a (l.bind id) (h.bind id) none).run P w' = .ok v w')∧K v w
   | none,_,_=>False
  | .call { callee := .builtin b,args,argTypes }=>match qdm (args.toList.map ρ) with
   | some vs=>∃v,(∀w',S w'→(builtin b argTypes o.type (args.map fun | .const _=>true | _=>false) vs.toArray).run P w' = .ok (.value v) w')∧K v w
   | none=>False
  | _=>False)
def C.cr (v:Value) (X:Prop):Prop:=(∀l a b,v ≠ .func (.yield l) a b)∧X
def qf9 (o:Oper) (env:Env) (X:Prop):Prop:=match o.op with
 | .call { callee := .value (.func _), .. }=>X
 | .call { callee := .value f, .. }=>match ev env f with
  | some v=>C.cr v X
  | none=>False
 | _=>X
def qbg (P:Program) (ops:Array Oper) (S:World→Prop) (held:Bool) (K:EK):Plan→Bool→Env→World→Prop
 | .fin,false,env,w=>K env w
 | .fin,true,_,_=>True
 | .take i p,_,env,w=>match ops[i]? with
  | none=>False
  | some o=>qkq ops o env (fun K'=>qq7 P S o (ev env) w K') w (fun v w'=>qbg P ops S held K p false (putE o.dst v env) w')
 | .go i p q,_,env,w=>match ops[i]? with
  | none=>False
  | some o=>(cond held (qf9 o env (qh7 P ops o env w fun env' w'=>S w'∧qbg P ops S held K p false env' w')) (qh7 P ops o env w fun env' w'=>S w'∧qbg P ops S held K p false env' w'))∧qbg P ops S held K q true env w
section
variable {P:Program} {S:World→Prop} {ρ : Operand→Option Value} {a:Act} {w:World} {K:VK}
theorem qh6 {t e:TypeId} (he:qed P t=some e):P.underlying t=some (.slice e):=by
 unfold qed at he
 split at he
 ·cases he;assumption
 ·cases he
theorem qmy {o:Oper} (hρ : ∀x v, ρ x=some v→a.eval x=v) (hwl:qhp P o=true) (h:qlu P o ρ w K):
  ∃v,(∀w',(execOp a.eval o).run P w' = .ok (.value v) w')∧K v w:=by
 obtain⟨dst,op,type,pos,after,guard⟩:=o
 cases op <;> simp only[qhp,y2b] at hwl <;> simp only[qlu] at h
 case move x=>
  split at h
  ·rename_i v hv;exact⟨v,fun w'=>by simp[execOp,hρ x v hv],h⟩
  ·exact h.elim
 case assign x=>
  split at h
  ·rename_i v hv;exact⟨v,fun w'=>by simp[execOp,hρ x v hv],h⟩
  ·exact h.elim
 case pick c x y=>
  obtain⟨t,hc,v,hv,hk⟩:=h
  refine⟨v,fun w'=>?_,hk⟩
  have hc':=hρ c _ hc
  cases t with
  | true=>have:=hρ x _ hv;simp[execOp,hc',asBool,this]
  | false=>have:=hρ y _ hv;simp[execOp,hc',asBool,this]
 case nilCheck x=>
  split at h
  ·rename_i p hp
   obtain⟨hn,hk⟩:=h
   refine⟨p,fun w'=>?_,hk⟩
   have hx:=hρ x _ hp
   cases p <;> simp_all [execOp,qmo]
   case pointer ad=>cases ad <;> simp_all
   case func fn _ _=>cases fn <;> simp_all
  ·exact h.elim
 case binOp op t x y yt=>
  split at h
  ·rename_i u v hu hv
   have e1:=hρ x _ hu
   have e2:=hρ y _ hv
   rw[hwl] at h
   obtain⟨k,m,n,r,rfl,rfl,hr,hk⟩:=h
   refine⟨r,fun w'=>?_,hk⟩
   simp[execOp,e1,e2,qat,qi6 hr]
  ·exact h.elim
 case unOp op t x=>
  cases op with
  | not=>
   simp only at h
   split at h
   ·rename_i u hu
    obtain⟨b,rfl,hk⟩:=h
    exact⟨_,fun w'=>by simp[execOp,hρ x _ hu,Op.unary],hk⟩
   ·exact h.elim
  | _=>simp at hwl
 case convert s t x=>
  split at h
  ·rename_i u hu
   split at h
   ·rename_i k hs ht
    obtain⟨k',n,rfl,hk⟩:=h
    refine⟨_,fun w'=>?_,hk⟩
    simp[execOp,hρ x _ hu,convert,underlying,hs,ht,Conv.intToInt]
   ·rename_i hno
    split at hwl
    ·rename_i k1 k2 e1 e2;exact (hno _ _ e1 e2).elim
    ·cases hwl
  ·exact h.elim
 case makeFunc fn first captured=>
  split at h
  ·rename_i l m hl hm
   refine⟨_,fun w'=>?_,h⟩
   have h1:=qd7 hρ _ _ hl
   have h2:=qd7 hρ _ _ hm
   have h1':first.map a.eval=l.toArray:=by rw[←h1];apply y4u;simp
   have h2':captured.map a.eval=m.toArray:=by rw[←h2];apply y4u;simp
   simp[execOp,Instr.makeFunc,h1',h2']
  ·exact h.elim
 case fieldAddr s x f=>
  split at h
  ·rename_i p fl hp hf
   split at h
   ·rename_i n hn
    obtain⟨ad,rfl,hk⟩:=h
    refine⟨_,fun w'=>?_,hk⟩
    have hs:∃fs,P.underlying s=some (.struct fs)∧fs[f]?=some fl:=by
     unfold qm9 at hf
     split at hf
     ·exact⟨_, ‹_›,hf⟩
     ·cases hf
    obtain⟨fs,hs,hfs⟩:=hs
    simp[execOp,Instr.fieldAt,underlying,hs,hfs,Instr.sureAddr,hρ x _ hp,fieldPlace,qb5 hn]
   ·exact h.elim
  ·exact h.elim
 case indexAddr t x i=>
  split at h
  ·rename_i u u' e hu hu' he
   split at h
   ·rename_i n hn
    obtain⟨g,len,cap,k,j,rfl,rfl,h0,h1,hk⟩:=h
    refine⟨_,fun w'=>?_,hk⟩
    have hs:=qh6 he
    simp[execOp,Instr.indexAt,asIntOf,underlying,hs,hρ x _ hu,hρ i _ hu',h0,h1,qb5 hn]
   ·exact h.elim
  ·rename_i u u' hu hu' he
   split at h
   ·rename_i ln e ha
    split at h
    ·rename_i n hn
     obtain⟨g,k,j,rfl,rfl,h0,h1,hk⟩:=h
     refine⟨_,fun w'=>?_,hk⟩
     have hs:P.underlying t=some (.array ln e):=by
      unfold qjc at ha
      split at ha
      ·cases ha;assumption
      ·cases ha
     simp[execOp,Instr.indexAt,asIntOf,Instr.sureAddr,underlying,hs,hρ x _ hu,hρ i _ hu',h0,h1,qb5 hn]
    ·exact h.elim
   ·exact h.elim
  ·exact h.elim
 case extract x i=>
  split at h
  ·rename_i u hu
   obtain⟨vs,v,rfl,hv,hk⟩:=h
   exact⟨v,fun w'=>by simp[execOp,Instr.extract,hρ x _ hu,hv],hk⟩
  ·exact h.elim
 case call c=>
  obtain⟨callee,args,argTypes⟩:=c
  cases callee with
  | value f=>simp at hwl
  | invoke r m=>simp at hwl
  | builtin b=>
   cases b <;> simp only[y2b] at hwl
   case len=>
    simp only[y2y] at hwl
    obtain⟨h1,h2⟩:=hwl
    cases hvs:qdm (args.toList.map ρ) with
    | none=>simp only[hvs] at h
    | some vs=>
     have hargs:=qd7 hρ _ _ hvs
     have hargs':args.map a.eval=vs.toArray:=by rw[←hargs];apply y4u;simp
     obtain⟨e,he⟩:=Option.isSome_iff_exists.1 h1
     have hl:args.size=1:=y1h h2
     obtain⟨x,rfl⟩:∃x,vs=[x]:=by
      have hv:vs.length=1:=by rw[←hargs];simpa using hl
      match vs,hv with
      | [x],_=>exact⟨x,rfl⟩
     simp only[hvs,qhn,he] at h
     obtain⟨g,n,c,rfl,hk⟩:=h
     refine⟨_,fun w'=>?_,hk⟩
     simp only[Option.bind_eq_some_iff] at he
     obtain⟨t,h0,he⟩:=he
     have hs:=qh6 he
     simp only[execOp,resolve,hargs',invoke,y4g,y4h,y2m]
     simp[builtin,Builtin.len_,h0,underlying,hs,goInt]
theorem qq8 {o:Oper} (hρ : ∀x v, ρ x=some v→a.eval x=v)
  (h:qq7 P S o ρ w K):∃v,(∀w',S w'→(execOp a.eval o).run P w' = .ok (.value v) w')∧K v w:=by
 unfold qq7 at h
 cases hwl:qhp P o with
 | true=>
  rw[hwl] at h
  simp only[cond_true] at h
  obtain⟨v,hv,hk⟩:=qmy hρ hwl h
  exact⟨v,fun w' _=>hv w',hk⟩
 | false=>
  rw[hwl] at h
  simp only[cond_false] at h
  obtain⟨dst,op,type,pos,after,guard⟩:=o
  cases op <;> simp only at h <;> try exact h.elim
  case load t x=>
   split at h
   ·rename_i p n hp hag hn
    obtain⟨ad,cs,rfl,hc,hk⟩:=h
    refine⟨_,fun w' hS=>?_,hk⟩
    simp[execOp,Instr.loadAt,Instr.sureAddr,hρ x _ hp,loadVar,qe4 hag,qb5 hn,loadCells,qfv P w' ad n 0 #[] cs (hc w' hS)]
   ·rename_i p q hp hag
    obtain⟨ad,v,rfl,hc,hk⟩:=h
    refine⟨v,fun w' hS=>?_,hk⟩
    simp[execOp,Instr.loadAt,Instr.sureAddr,hρ x _ hp,loadVar,qe4 hag,hc w' hS]
   ·exact h.elim
  case binOp op t x y yt=>
   split at h
   ·rename_i u v hu hv
    have e1:=hρ x _ hu
    have e2:=hρ y _ hv
    obtain⟨r,hr,hk⟩:=h
    refine⟨r,fun w' hS=>?_,hk⟩
    have hr':=hr w' hS
    simp only[execOp,e1,e2]
    simp only[y4g] at hr' ⊢
    rw[hr'];rfl
   ·exact h.elim
  case build t parts=>
   split at h
   ·rename_i vs hvs
    obtain⟨v,hr,hk⟩:=h
    refine⟨v,fun w' hS=>?_,hk⟩
    have:=qfu hρ _ _ hvs
    have hp:(parts.map fun (i,x)=>(i,a.eval x))=((parts.toList.map (·.1)).zip vs).toArray:=by
     rw[←this];apply y4u ;simp
    simp only[execOp,hp,y4g,hr w' hS];rfl
   ·exact h.elim
  case slice t x lo hi mx=>
   cases mx with
   | some _=>exact h.elim
   | none=>
    simp only at h
    have hlo:∀l,lo.map ρ = l→l≠some none→lo.map a.eval=l.bind id:=by
     intro l hl hne
     cases lo with
     | none=>simp at hl;subst hl;rfl
     | some q=>
      simp at hl;subst hl
      cases hq : ρ q with
      | none=>simp[hq] at hne
      | some z=>simp[hρ q z hq]
    have hhi:∀l,hi.map ρ = l→l≠some none→hi.map a.eval=l.bind id:=by
     intro l hl hne
     cases hi with
     | none=>simp at hl;subst hl;rfl
     | some q=>
      simp at hl;subst hl
      cases hq : ρ q with
      | none=>simp[hq] at hne
      | some z=>simp[hρ q z hq]
    split at h
    ·exact h.elim
    ·exact h.elim
    ·rename_i u l r hu h1 h2
     obtain⟨v,hr,hk⟩:=h
     refine⟨v,fun w' hS=>?_,hk⟩
     have e1:=hlo _ rfl (by assumption)
     have e2:=hhi _ rfl (by assumption)
     simp only[execOp,hρ x _ hu,e1,e2,Option.map_none,y4g,hr w' hS];rfl
    ·exact h.elim
  case call c=>
   obtain⟨callee,args,argTypes⟩:=c
   cases callee with
   | value f=>exact h.elim
   | invoke r m=>exact h.elim
   | builtin b=>
    simp only at h
    cases hvs:qdm (args.toList.map ρ) with
    | none=>rw[hvs] at h;exact h.elim
    | some vs=>
     rw[hvs] at h
     obtain⟨v,hr,hk⟩:=h
     have hargs:=qd7 hρ _ _ hvs
     have hargs':args.map a.eval=vs.toArray:=by rw[←hargs];apply y4u;simp
     refine⟨v,fun w' hS=>?_,hk⟩
     simp only[execOp,resolve,hargs',invoke,y4g,y4h,y2m]
     exact hr w' hS
theorem qh3 {o:Oper} {env:Env} {n:Nat} {a:Act} {X:Prop} (he:Ext n env a) (h:qf9 o env X):qc9 a.eval o=false∧X:=by
 obtain⟨dst,op,type,pos,after,guard⟩:=o
 cases op with
 | call c=>
  obtain⟨callee,args,argTypes⟩:=c
  cases callee with
  | value f=>
   cases f with
   | func f'=>exact⟨by simp[qc9,Act.eval],h⟩
   | tmp t=>
    simp only[qf9] at h
    split at h
    ·rename_i v hv
     have e:=he.eval hv
     refine⟨?_,h.2⟩
     simp only[qc9,e]
     split
     ·rename_i l a b;exact absurd rfl (h.1 l a b)
     ·rfl
    ·exact h.elim
   | const c=>
    simp only[qf9] at h
    split at h
    ·rename_i v hv
     have e:=he.eval hv
     refine⟨?_,h.2⟩
     simp only[qc9,e]
     split
     ·rename_i l a b;exact absurd rfl (h.1 l a b)
     ·rfl
    ·exact h.elim
   | global g=>
    simp only[qf9] at h
    split at h
    ·rename_i v hv
     have e:=he.eval hv
     refine⟨?_,h.2⟩
     simp only[qc9,e]
     split
     ·rename_i l a b;exact absurd rfl (h.1 l a b)
     ·rfl
    ·exact h.elim
  | _=>exact⟨rfl,h⟩
 | _=>exact⟨rfl,h⟩
theorem qxi {n:Nat} {ops:Array Oper} {i:Nat} {o:Oper} {env:Env} {K:EK} {K':Act→World→Prop} {Q:Exit→Act→World→Prop} (hi:ops[i]?=some o) (hc:qc9 a.eval o=false) (hd:dOk n o) (he:Ext n env a)
  (h:qh7 P ops o env w K) (hk:∀env' a' w',Ext n env' a'→K env' w'→K' a' w'):wpOp P ops Q i K' a w:=by
 unfold wpOp
 simp only[hi]
 rcases qho he h with⟨hw,h1⟩ | ⟨hw,h1⟩
 ·rw[if_pos hw]
  exact .inl (qi8.wp hc (qi2 (fun x v hv=>he.eval hv) h1) fun v w' hkv=>hk _ _ _ (he.putE hd v) hkv)
 ·rw[if_neg (by simp[hw])]
  exact hk _ _ _ (he.putE hd undef) h1
end
def qd1:Plan→Nat
 | .fin=>0
 | .take _ p=>qd1 p+1
 | .go _ p q=>max (qd1 p+1) (qd1 q)
theorem quh {P:Program} {n:Nat} {ops:Array Oper} {S:World→Prop} {Q:Exit→Env→World→Prop} (hs:Region.noSelect ops=true) (hd:∀o∈ops.toList,dOk n o) (p:Plan):
  (∀(fuel:Nat) (listed:Array Bool) (env:Env) (a:Act) (w:World),qd1 p≤fuel→qbf ops p none listed=true→Ext n env a→S w→
   qbg P ops S true (fun e w=>Q .normal e w) p false env w→wpAnyH P .any ops (qdf n Q) S fuel listed a w)∧
  (∀(fuel:Nat) (rs:List Nat) (listed:Array Bool) (env:Env) (a:Act) (w:World),qd1 p≤fuel+1→qbf ops p (some rs) listed=true→Ext n env a→S w→
   qbg P ops S true (fun e w=>Q .normal e w) p true env w→∀i∈rs,wpOp P ops (qdf n Q) i (fun a' w'=>S w'∧wpAnyH P .any ops (qdf n Q) S fuel (listed.setIfInBounds i true) a' w') a w):=by
 have hdi:∀(i:Nat) (o:Oper),ops[i]?=some o→dOk n o:=fun i o ho=>hd o (by simpa using Array.mem_of_getElem? ho)
 induction p with
 | fin=>
  refine⟨?_,?_⟩
  ·intro fuel listed env a w _ hok he _ h
   exact wpAnyH_done (by simpa[qbf] using hok) ⟨env,he,h⟩ fuel
  ·intro fuel rs listed env a w _ hok _ _ _ i hi
   simp only[qbf,List.isEmpty_iff] at hok
   subst hok
   cases hi
 | take i p ih=>
  refine⟨?_,?_⟩
  ·intro fuel listed env a w hf hok he hS h
   obtain⟨fuel,rfl⟩:∃m,fuel=m+1:=⟨fuel-1,by simp only[qd1] at hf;omega⟩
   simp only[qbf,y2y] at hok
   obtain⟨⟨h1,h2⟩,h3⟩:=hok
   simp only[qbg] at h
   split at h
   ·exact h.elim
   ·rename_i o ho
    rcases qho he h with⟨hw,hv⟩ | ⟨hw,hv⟩
    ·obtain⟨v,hrun,hk⟩:=qq8 (fun x v hv=>he.eval hv) hv
     exact wpAnyH_take ho hs h2 h1 (fun c a w h=>h) (.inl ⟨hw,hrun⟩) hS (ih.1 fuel _ _ _ _ (by simp only[qd1] at hf;omega) h3 (he.putE (hdi i o ho) v) hS hk)
    ·exact wpAnyH_take ho hs h2 h1 (fun c a w h=>h) (.inr ⟨hw,rfl⟩) hS (ih.1 fuel _ _ _ _ (by simp only[qd1] at hf;omega) h3 (he.putE (hdi i o ho) undef) hS hv)
  ·intro fuel rs listed env a w _ hok
   simp[qbf] at hok
 | go i p q ih1 ih2=>
  have one:∀(fuel:Nat) (listed:Array Bool) (env:Env) (a:Act) (w:World),qd1 p≤fuel→qbf ops p none (listed.setIfInBounds i true)=true→Ext n env a→
    qbg P ops S true (fun e w=>Q .normal e w) (.go i p q) false env w→
    wpOp P ops (qdf n Q) i (fun a' w'=>S w'∧wpAnyH P .any ops (qdf n Q) S fuel (listed.setIfInBounds i true) a' w') a w:=by
   intro fuel listed env a w hf hok he h
   simp only[qbg] at h
   split at h
   ·exact h.elim
   ·rename_i o ho
    exact qxi ho (qh3 he h.1).1 (hdi i o ho) he (qh3 he h.1).2 fun env' a' w' he' hk=>⟨hk.1,ih1.1 fuel _ env' a' w' hf hok he' hk.1 hk.2⟩
  have two:∀(env:Env) (w:World) (b:Bool),qbg P ops S true (fun e w=>Q .normal e w) (.go i p q) b env w→qbg P ops S true (fun e w=>Q .normal e w) (.go i p q) false env w∧qbg P ops S true (fun e w=>Q .normal e w) q true env w:=by
   intro env w b h
   refine⟨by cases b <;> exact h,?_⟩
   simp only[qbg] at h
   split at h
   ·exact h.elim
   ·exact h.2
  refine⟨?_,?_⟩
  ·intro fuel listed env a w hf hok he hS h
   simp only[qd1] at hf
   obtain⟨fuel,rfl⟩:∃m,fuel=m+1:=⟨fuel-1,by omega⟩
   simp only[qbf] at hok
   split at hok
   ·rename_i j rs hr
    simp only[y2y] at hok
    obtain⟨⟨h1,h2⟩,h3⟩:=hok
    obtain rfl:j=i:=y1h h1
    refine wpAnyH_all hr (by simp) fun m hm=>?_
    rcases y4b.1 hm with rfl | hm
    ·exact one fuel listed env a w (by omega) h2 he (two env w false h).1
    ·exact ih2.2 fuel rs listed env a w (by omega) h3 he hS (two env w false h).2 m hm
   ·cases hok
  ·intro fuel rs listed env a w hf hok he hS h m hm
   simp only[qd1] at hf
   cases rs with
   | nil=>cases hm
   | cons j rs=>
    simp only[qbf,y2y] at hok
    obtain⟨⟨h1,h2⟩,h3⟩:=hok
    obtain rfl:j=i:=y1h h1
    rcases y4b.1 hm with rfl | hm
    ·exact one fuel listed env a w (by omega) h2 he (two env w true h).1
    ·exact ih2.2 fuel rs listed env a w (by omega) h3 he hS (two env w true h).2 m hm
def qgy:Plan→Bool
 | .fin=>true
 | .take _ _=>false
 | .go _ p q=>qgy p && qgy q
theorem qrp {P:Program} {r:Option Nat} {n:Nat} {ops:Array Oper} {i:Nat} {o:Oper} {env:Env} {w:World} {a:Act} {K:EK} {K':Act→World→Prop} {Q:Exit→Act→World→Prop} (hi:ops[i]?=some o) (hd:dOk n o) (he:Ext n env a)
  (h:qh7 P ops o env w K) (hk:∀env' a' w',Ext n env' a'→K env' w'→K' a' w'):wpOpIn (Fc r) 0 P ops Q i K' a w:=by
 unfold wpOpIn
 simp only[hi]
 rcases qho he h with⟨hw,h1⟩ | ⟨hw,h1⟩
 ·rw[if_pos hw]
  exact qi8.wpIn (qj8 h1) (qi2 (fun x v hv=>he.eval hv) h1) fun v w' hkv=>hk _ _ _ (he.putE hd v) hkv
 ·rw[if_neg (by simp[hw])]
  exact⟨fun _ _=>trivial,hk _ _ _ (he.putE hd undef) h1⟩
theorem qqp {P:Program} {r:Option Nat} {n:Nat} {ops:Array Oper} {S:World→Prop} {Q:Exit→Env→World→Prop} (hd:∀o∈ops.toList,dOk n o) (p:Plan):qgy p=true→
  (∀(fuel:Nat) (listed:Array Bool) (env:Env) (a:Act) (w:World),qd1 p≤fuel→qbf ops p none listed=true→Ext n env a→
   qbg P ops S false (fun e w=>Q .normal e w) p false env w→wpAnyIn (Fc r) 0 P .any ops (qdf n Q) fuel listed a w)∧
  (∀(fuel:Nat) (rs:List Nat) (listed:Array Bool) (env:Env) (a:Act) (w:World),qd1 p≤fuel+1→qbf ops p (some rs) listed=true→Ext n env a→
   qbg P ops S false (fun e w=>Q .normal e w) p true env w→∀i∈rs,wpOpIn (Fc r) 0 P ops (qdf n Q) i (fun a' w'=>wpAnyIn (Fc r) 0 P .any ops (qdf n Q) fuel (listed.setIfInBounds i true) a' w') a w):=by
 have hdi:∀(i:Nat) (o:Oper),ops[i]?=some o→dOk n o:=fun i o ho=>hd o (by simpa using Array.mem_of_getElem? ho)
 induction p with
 | fin=>
  intro _
  refine⟨?_,?_⟩
  ·intro fuel listed env a w _ hok he h
   exact wpAnyIn_done (by simpa[qbf] using hok) ⟨env,he,h⟩ fuel
  ·intro fuel rs listed env a w _ hok _ _ i hi
   simp only[qbf,List.isEmpty_iff] at hok
   subst hok
   cases hi
 | take i p ih=>intro h;cases h
 | go i p q ih1 ih2=>
  intro hg
  simp only[qgy,y2y] at hg
  have ih1:=ih1 hg.1
  have ih2:=ih2 hg.2
  have one:∀(fuel:Nat) (listed:Array Bool) (env:Env) (a:Act) (w:World),qd1 p≤fuel→qbf ops p none (listed.setIfInBounds i true)=true→Ext n env a→
    qbg P ops S false (fun e w=>Q .normal e w) (.go i p q) false env w→
    wpOpIn (Fc r) 0 P ops (qdf n Q) i (fun a' w'=>wpAnyIn (Fc r) 0 P .any ops (qdf n Q) fuel (listed.setIfInBounds i true) a' w') a w:=by
   intro fuel listed env a w hf hok he h
   simp only[qbg] at h
   split at h
   ·exact h.elim
   ·rename_i o ho
    have h1:qh7 P ops o env w fun env' w'=>S w'∧qbg P ops S false (fun e w=>Q .normal e w) p false env' w':=h.1
    exact qrp ho (hdi i o ho) he h1 fun env' a' w' he' hk=>ih1.1 fuel _ env' a' w' hf hok he' hk.2
  have two:∀(env:Env) (w:World) (b:Bool),qbg P ops S false (fun e w=>Q .normal e w) (.go i p q) b env w→qbg P ops S false (fun e w=>Q .normal e w) (.go i p q) false env w∧qbg P ops S false (fun e w=>Q .normal e w) q true env w:=by
   intro env w b h
   refine⟨by cases b <;> exact h,?_⟩
   simp only[qbg] at h
   split at h
   ·exact h.elim
   ·exact h.2
  refine⟨?_,?_⟩
  ·intro fuel listed env a w hf hok he h
   simp only[qd1] at hf
   obtain⟨fuel,rfl⟩:∃m,fuel=m+1:=⟨fuel-1,by omega⟩
   simp only[qbf] at hok
   split at hok
   ·rename_i j rs hr
    simp only[y2y] at hok
    obtain⟨⟨h1,h2⟩,h3⟩:=hok
    obtain rfl:j=i:=y1h h1
    refine wpAnyIn_all hr (by simp) fun m hm=>?_
    rcases y4b.1 hm with rfl | hm
    ·exact one fuel listed env a w (by omega) h2 he (two env w false h).1
    ·exact ih2.2 fuel rs listed env a w (by omega) h3 he (two env w false h).2 m hm
   ·cases hok
  ·intro fuel rs listed env a w hf hok he h m hm
   simp only[qd1] at hf
   cases rs with
   | nil=>cases hm
   | cons j rs=>
    simp only[qbf,y2y] at hok
    obtain⟨⟨h1,h2⟩,h3⟩:=hok
    obtain rfl:j=i:=y1h h1
    rcases y4b.1 hm with rfl | hm
    ·exact one fuel listed env a w (by omega) h2 he (two env w true h).1
    ·exact ih2.2 fuel rs listed env a w (by omega) h3 he (two env w true h).2 m hm
abbrev QE:=Exit→Env→World→Prop
structure Ann where
 cuts:List (Nat × List Nat)
 loops:List (Nat × List Nat)
 labels:List (Nat × List Nat)
 plans:List (Nat × Plan)
 rd:Option Nat:=none
def qow {α : Type}:List (Nat × α)→Nat→Option α
 | [],_=>none
 | (k,v) :: r,t=>cond (Nat.beq k t) (some v) (qow r t)
def qhy:Code→Option Nat
 | .region id _ _=>some id
 | .seq a _=>qhy a
 | .block _ c | .loop c | .scope c=>qhy c
 | _=>none
def sub:List Nat→Env→Option Env
 | [],_=>some []
 | t :: ts,env=>match lk env t,sub ts env with
  | some v,some r=>some ((t,v) :: r)
  | _,_=>none
theorem qwr:∀(ts:List Nat) (env env':Env),sub ts env=some env'→∀t v,lk env' t=some v→lk env t=some v
 | [],env,env',h,t,v,hv=>by simp[sub] at h;subst h;simp[lk] at hv
 | t0 :: ts,env,env',h,t,v,hv=>by
  simp only[sub] at h
  split at h
  ·rename_i v0 r h0 hr
   simp only[y2k] at h
   subst h
   rw[qgq] at hv
   by_cases ht:t0=t
   ·subst ht;simp only[if_true,y2k] at hv;subst hv;exact h0
   ·rw[if_neg ht] at hv;exact qwr ts env r hr t v hv
  ·cases h
def qm8 (live:Option (List Nat)) (env:Env) (K:Env→Prop):Prop:=
 match live with
 | none=>K env
 | some ts=>match sub ts env with
  | some env'=>match lk env mkT,lk env' mkT with
   | some _,none=>False
   | _,_=>K env'
  | none=>False
theorem qhh {n:Nat} {live:Option (List Nat)} {env:Env} {K:Env→Prop} {a:Act} (h:qm8 live env K) (he:Ext n env a):∃env',Ext n env' a∧K env':=by
 unfold qm8 at h
 split at h
 ·exact⟨env,he,h⟩
 ·split at h
  ·rename_i env' hs
   split at h
   ·exact h.elim
   ·rename_i hne
    refine⟨env',he.mono (qwr _ _ _ hs) fun hm=>?_,h⟩
    cases h1:lk env mkT with
    | none=>rw[h1] at hm;cases hm
    | some v=>
     cases h2:lk env' mkT with
     | some u=>rfl
     | none=>exact (hne v h1 h2).elim
  ·exact h.elim
def qty (l:List (Nat × List Nat)) (r:Option Nat):Option (List Nat):=match r with | some r=>qow l r | none=>none
def qoz (A:Ann) (r:Option Nat) (Y:EK) (Q:QE):QE:=fun e env w=>match e with
 | .normal=>qm8 (qty A.cuts r) env fun env'=>Y env' w
 | e=>Q e env w
def qpo (id:Nat) (Q:QE):QE:=fun e env w=>match e with
 | .exit i=>cond (Nat.beq i id) (Q .normal env w) (Q (.exit i) env w)
 | e=>Q e env w
def ql1 (P:Program) (n:Nat) (r:Option Nat) (body:Code) (Q:QE) (env:Env) (w:World):Prop:=
 ∀a,Ext n env a→∀(b:Frame) (k:List Item) (cs:List Frame),b.roundOf=r→∃e a' w',qdf n Q e a' w'∧ArrivesIn (Machine.fenced P (Fc r)) P (lone (b.atR a (.code body :: .inLoop body :: k)) cs w) b k cs e a' w'
def qox (A:Ann) (P:Program) (n:Nat) (body:Code) (Q:QE):QE:=fun e env w=>match e with
 | .normal=>qm8 (some ((qty A.loops (qhy body)).getD [])) env fun env'=>ql1 P n A.rd body Q env' w
 | e=>Q e env w
def zd5 (P:Program) (n:Nat) (r:Option Nat) (body c:Code) (Q:QE) (env:Env) (w:World):Prop:=
 ∀a,Ext n env a→∀(b:Frame) (k:List Item) (cs:List Frame),b.roundOf=r→∃e a' w',qdf n Q e a' w'∧ArrivesIn (Machine.fenced P (Fc r)) P (lone (b.atR a (.code c :: .inScope body :: k)) cs w) b k cs e a' w'
def qmu (A:Ann) (P:Program) (n:Nat) (body:Code) (Q:QE):QE:=fun e env w=>match e with
 | .goto l=>match findLabel body l with
  | some rest=>qm8 (some ((qow A.labels l).getD [])) env fun env'=>zd5 P n A.rd body rest Q env' w
  | none=>Q (.goto l) env w
 | e=>Q e env w
def C.a9 (w:World) (F:(World→Prop)→World→Prop):Prop:=∃S:World→Prop,S { w with drawn:=w.drawn+1 }∧F S { w with drawn:=w.drawn+1 }
def qv9 (A:Ann) (P:Program) (n id:Nat) (ops:Array Oper):Option Plan:=
 match qow A.plans id with
 | some p=>cond (qkf n ops.toList && Region.noSelect ops && P.follows .mixedOrders && qbf ops p none (Array.replicate ops.size false) && Nat.ble (qd1 p) ops.size) (some p) none
 | none=>none
def qi3 (A:Ann) (P:Program) (n id:Nat) (ops:Array Oper) (draw:Bool) (K:EK) (env:Env) (w:World):Prop:=
 match draw with
 | false=>cond (qkf n ops.toList) (qq6 P ops ops.toList env w K) False
 | true=>match qv9 A P n id ops with
  | some p=>cond (qgy p || A.rd.isNone) (C.a9 w fun S w=>qbg P ops S (!qgy p) K p false env w) False
  | none=>False
def C.cg (P:Program) (n:Nat) (gv:Value) (ps:Array Tmp) (as bd:Code) (env:Env) (w:World) (K:Nat→Option Code→World→Prop):Prop:=
 match gv with
 | .func (.func f) first captured=>cond (qb7 P f) (∀fn tmps,tmps.size=n→(∀t v,lkT env t=some v→tmps[t]?=some v)→
  C.i P f (first.toList ++ ([Value.func (.yield (w.heap.size+1)) #[] #[]] ++ captured.toList)).toArray ((w.alloc (.deferred (some []))).alloc (.loop { state := .ready,pending:=none,fn:=fn,tmps:=tmps,params:=ps,assign:=as,body:=bd,defers:=w.heap.size })) fun _ w'=>
   ∃rec,w'.heap[w.heap.size+1]?=some (.loop rec)∧rec.state ≠ .busy∧K w.heap.size rec.pending (w'.putObj (w.heap.size+1) (.loop { rec with state := .exhausted }))) False
 | _=>False
def qw5 (Q:QE) (env:Env) (D:Nat) (j:Option Code) (w:World):Prop:=
 match j with
 | none=>Q .normal ((mkT,.int .i64 (D:Int)) :: env) w
 | some .ret=>Q .ret ((mkT,.int .i64 (D:Int)) :: env) w
 | some (.exit id)=>Q (.exit id) ((mkT,.int .i64 (D:Int)) :: env) w
 | _=>False
def qbj (A:Ann) (P:Program) (n:Nat):Code→QE→Env→World→Prop
 | .skip,Q,env,w=>Q .normal env w
 | .label _,Q,env,w=>Q .normal env w
 | .region id ops draw,Q,env,w=>qi3 A P n id ops draw (fun env w=>Q .normal env w) env w
 | .seq x y,Q,env,w=>qbj A P n x (qoz A (qhy y) (fun env w=>qbj A P n y Q env w) Q) env w
 | .cond c x y,Q,env,w=>match ev env c with
  | some v=>C.am v (qbj A P n x Q env w) (qbj A P n y Q env w)
  | none=>False
 | .block id c,Q,env,w=>qbj A P n c (qpo id Q) env w
 | .loop c,Q,env,w=>qm8 (some ((qty A.loops (qhy c)).getD [])) env fun env'=>ql1 P n A.rd c Q env' w
 | .scope c,Q,env,w=>qbj A P n c (qmu A P n c Q) env w
 | .exit id,Q,env,w=>Q (.exit id) env w
 | .goto l,Q,env,w=>Q (.goto l) env w
 | .ret,Q,env,w=>Q .ret env w
 | .rangeFunc g ps as bd,Q,env,w=>match ev env g,lk env mkT with
  | some gv,none=>cond A.rd.isNone (C.cg P n gv ps as bd env w (qw5 Q env)) False
  | _,_=>False
 | _,_,_,_=>False
section
variable {A:Ann} {P:Program} {n:Nat}
theorem qnn {id:Nat} {ops:Array Oper} {draw:Bool} {Q:QE} {env:Env} {w:World} {a:Act} (he:Ext n env a)
  (h:qi3 A P n id ops draw (fun env w=>Q .normal env w) env w):(Code.region id ops draw).wpIn (Fc A.rd) 0 P (qdf n Q) a w:=by
 cases draw with
 | false=>
  simp only[qi3] at h
  cases hd:qkf n ops.toList with
  | false=>rw[hd] at h;exact h.elim
  | true=>
   rw[hd] at h
   exact wpIn_region_list (qg9 _ _ _ _ (qie hd) he h)
 | true=>
  simp only[qi3] at h
  split at h
  ·rename_i p hp
   unfold qv9 at hp
   split at hp
   ·rename_i p' hp'
    cases hc:(qkf n ops.toList && Region.noSelect ops && P.follows .mixedOrders && qbf ops p' none (Array.replicate ops.size false) && Nat.ble (qd1 p') ops.size) with
    | false=>rw[hc] at hp;cases hp
    | true=>
     rw[hc] at hp
     cases hp
     simp only[y2y] at hc
     obtain⟨⟨⟨⟨h1,h2⟩,h3⟩,h4⟩,h5⟩:=hc
     cases hg:qgy p with
     | true=>
      rw[hg] at h
      obtain⟨S,hS,h⟩:=h
      exact wpIn_region_any h3 (((qqp (qie h1) p hg).1 ops.size _ env a _ (y1i h5) h4 he h))
     | false=>
      rw[hg] at h
      cases hr:A.rd.isNone with
      | false=>rw[hr] at h;exact h.elim
      | true=>
       rw[hr] at h
       simp only[y0l] at hr
       obtain⟨S,hS,h⟩:=h
       rw[hr]
       exact wpIn_wide.2 (wp_region_held h3 ((quh h2 (qie h1) p).1 ops.size _ env a _ (y1i h5) h4 he hS h))
   ·cases hp
  ·exact h.elim
section
variable {b:Frame} {a:Act} {k:List Item} {cs:List Frame} {w:World}
theorem qc7 {c:Code}:step P (lone (b.atR a (.code (.scope c) :: k)) cs w) = .next (lone (b.atR a (.code c :: .inScope c :: k)) cs w):=
 step_lone_go (by simp[stepG,stepG.exec,Frame.atR])
theorem qor {c:Code}:step P (lone (b.atR a (.inScope c :: k)) cs w) = .next (lone (b.atR a k) cs w):=
 step_lone_go (by simp[stepG,stepG.exec,Frame.atR])
end
theorem qs3 (r:Option Nat) (m:Nat):(Fc r).room m:=fun d hd=>by simp[Fc,Fence.wide] at hd
theorem qx2 {r:Option Nat} {body:Code} {Q:QE} {env:Env} {w:World} {a:Act} (he:Ext n env a) (h:ql1 P n r body Q env w):(Code.loop body).wpIn (Fc r) 0 P (qdf n Q) a w:=by
 intro b k cs hro hb hr
 obtain⟨e,a',w',hq,harr⟩:=h a he b k cs hro
 exact⟨e,a',w',hq,.of_steps (.one (fenced_calm (n:=0) hb hr rfl) stepR_loop) harr⟩
theorem qxk {r:Option Nat} {rr:Option Nat} {Y:Code} {Q:QE} (hY:∀env a w,Ext n env a→qbj A P n Y Q env w→Y.wpIn (Fc rr) 0 P (qdf n Q) a w) (e:Exit) (a:Act) (w:World)
  (h:qdf n (qoz A r (fun env w=>qbj A P n Y Q env w) Q) e a w):Exit.then (Y.wpIn (Fc rr) 0 P (qdf n Q)) (qdf n Q) e a w:=by
 cases e with
 | normal=>
  obtain⟨env,he,h⟩:=h
  simp only[qoz] at h
  obtain⟨env',he',h'⟩:=qhh h he
  exact hY env' a w he' h'
 | panic c=>exact h.elim
 | outgrown=>exact h.elim
 | exit i=>exact h
 | goto l=>exact h
 | ret=>exact h
theorem qfc:∀(c:Code) (Q:QE) (env:Env) (a:Act) (w:World),Ext n env a→qbj A P n c Q env w→c.wpIn (Fc A.rd) 0 P (qdf n Q) a w:=by
 intro c
 induction c with
 | skip=>intro Q env a w he h;exact wpIn_skip ⟨env,he,h⟩
 | label l=>intro Q env a w he h;exact wpIn_label ⟨env,he,h⟩
 | region id ops draw=>intro Q env a w he h;exact qnn he h
 | seq x y ihx ihy=>
  intro Q env a w he h
  exact wpIn_seq (wpIn_mono (ihx _ env a w he h) fun e a w hq=>qxk (fun env a w he h=>ihy Q env a w he h) e a w hq)
 | cond c x y ihx ihy=>
  intro Q env a w he h
  simp only[qbj] at h
  split at h
  ·rename_i v hv
   obtain⟨t,rfl,h1,h2⟩:=h
   exact wpIn_cond_split (he.eval hv) (fun ht=>ihx Q env a w he (h1 ht)) (fun ht=>ihy Q env a w he (h2 ht))
  ·exact h.elim
 | block id c ih=>
  intro Q env a w he h
  refine wpIn_block (wpIn_mono (ih _ env a w he h) fun e a w hq=>?_)
  cases e with
  | exit i=>
   obtain⟨env',he',hq⟩:=hq
   simp only[qpo] at hq
   simp only[Exit.inBlock]
   cases hb:Nat.beq i id with
   | true=>
    rw[hb] at hq
    rw[if_pos (y1h hb)]
    exact⟨env',he',hq⟩
   | false=>
    rw[hb] at hq
    rw[if_neg (y1c hb)]
    exact⟨env',he',hq⟩
  | normal=>exact hq
  | goto l=>exact hq
  | ret=>exact hq
  | panic c=>exact hq
  | outgrown=>exact hq
 | loop c _=>
  intro Q env a w he h
  obtain⟨env',he',h'⟩:=qhh h he
  exact qx2 he' h'
 | scope c ih=>
  intro Q env a w he h
  intro b k cs hro hb hr
  obtain⟨e,a₁,w₁,hq,harr⟩:=ih _ env a w he h b (.inScope c :: k) cs hro hb hr
  have i0:=fenced_calm (P:=P) (F:=Fc A.rd) (n:=0) (fr:=b.atR a (.code (.scope c) :: k)) (cs:=cs) (w:=w) hb hr rfl
  cases e with
  | normal=>exact⟨.normal,a₁,w₁,hq,.head i0 qc7 (StepsIn.trans harr (.one (fenced_calm (n:=0) hb hr rfl) qor))⟩
  | exit id=>
   have hx:exitTo id (.inScope c :: k)=exitTo id k:=by simp[exitTo]
   exact⟨.exit id,a₁,w₁,hq,fun k' hk => .head i0 qc7 (harr.1 k' (by rw[hx];exact hk)),
    fun hr' hk=>let ⟨k₁,h1,h2⟩:=harr.2 hr' (by rw[hx];exact hk); ⟨k₁,h1,.head i0 qc7 h2⟩⟩
  | goto l=>
   obtain⟨env₁,he₁,hq⟩:=hq
   simp only[qmu] at hq
   split at hq
   ·rename_i rest hrest
    obtain⟨env₂,he₂,hq⟩:=qhh hq he₁
    obtain⟨e₂,a₂,w₂,hq₂,harr₂⟩:=hq a₁ he₂ b k cs hro
    exact⟨e₂,a₂,w₂,hq₂,.of_steps (.head i0 qc7 (harr.1 _ (by simp[gotoIn,hrest]))) harr₂⟩
   ·rename_i hnone
    have hx:gotoIn l (.inScope c :: k)=gotoIn l k:=by simp[gotoIn,hnone]
    exact⟨.goto l,a₁,w₁,⟨env₁,he₁,hq⟩,fun k' hk => .head i0 qc7 (harr.1 k' (by rw[hx];exact hk)),
     fun hr' hk=>let ⟨k₁,h1,h2⟩:=harr.2 hr' (by rw[hx];exact hk); ⟨k₁,h1,.head i0 qc7 h2⟩⟩
  | ret=>exact⟨.ret,a₁,w₁,hq,.of_steps (.one i0 qc7) harr⟩
  | panic ch=>exact hq.elim
  | outgrown=>exact hq.elim
 | exit id=>intro Q env a w he h;exact wpIn_exit ⟨env,he,h⟩
 | goto l=>intro Q env a w he h;exact wpIn_goto ⟨env,he,h⟩
 | ret=>intro Q env a w he h;exact wpIn_ret ⟨env,he,h⟩
 | rangeFunc g ps as bd _ _=>
  intro Q env a w he h
  simp only[qbj] at h
  split at h
  ·rename_i gv hgv hmk
   cases hr:A.rd.isNone with
   | false=>rw[hr] at h;exact h.elim
   | true=>
    rw[hr] at h
    simp only[y0l] at hr
    rw[hr]
    have hg:=he.eval hgv
    refine wpIn_rangeFunc fun fn _=>?_
    simp only[cond_true] at h
    unfold C.cg at h
    split at h
    ·rename_i f' first captured
     cases hb:qb7 P f' with
     | false=>rw[hb] at h;exact h.elim
     | true=>
      rw[hb] at h
      have h:=h fn a.tmps he.size he.has
      have hent:=run_enterLoop_outer (P:=P) (w:=w) fn a.tmps ps as bd
      generalize (w.alloc (.deferred (some []))).alloc (.loop { state := .ready,pending:=none,fn:=fn,tmps:=a.tmps,params:=ps,assign:=as,body:=bd,defers:=w.heap.size })=W1 at *
      refine⟨w.heap.size+1,[{ target := .collected w.heap.size,args := #[] }],W1,{ target := .fn (.func f') captured,args:=first ++ #[Value.func (.yield (w.heap.size+1)) #[] #[]] },W1,f',(first ++ #[Value.func (.yield (w.heap.size+1)) #[] #[]]) ++ captured,W1,hent,?_,fun _ _=>trivial,?_,fun hd=>by simp[Fc,Fence.wide] at hd,?_⟩
      ·simp only[resolve,Deferred.ofValue,hg,y4h]
       simp[Act.eval]
      ·unfold qb7 at hb
       split at hb
       ·rename_i fn' hfn
        simp only[y2y,y2n] at hb
        obtain⟨hb1,hb2⟩:=hb
        have hb3:fn'.body.isNone=false:=by cases hq:fn'.body <;> simp_all
        simp only[invoke,callFunc,y4g,y4h,y2m,run_program,hfn,hb2,hb3,y2b,if_false]
       ·cases hb
      ·have ha:(first ++ #[Value.func (.yield (w.heap.size+1)) #[] #[]]) ++ captured=(first.toList ++ ([Value.func (.yield (w.heap.size+1)) #[] #[]] ++ captured.toList)).toArray:=by apply y4u;simp
       rw[ha]
       refine CallsIn.mono (callsIn_wide.2 h) ?_
       rintro e w' ⟨v,rfl,rec,hrec,hst,hq⟩
       refine⟨_,_,run_endLoop hrec hst,?_⟩
       have he':Ext n ((mkT,.int .i64 (w.heap.size:Int)) :: env) { a with defers:=[{ target := .collected w.heap.size,args := #[] }] ++ a.defers }:=by
        refine⟨?_,he.size,fun t v hv=>?_⟩
        ·have hm0:qdt env=[]:=by unfold qdt;rw[hmk]
         have hm1:qdt ((mkT,.int .i64 (w.heap.size:Int)) :: env)=[{ target := .collected w.heap.size,args := #[] }]:=by
          unfold qdt
          rw[qgq,if_pos rfl]
          simp
         rw[hm1,he.defers,hm0]
         rfl
        ·obtain⟨ht,hv⟩:=qg2 hv
         rw[qgq,if_neg (Ne.symm ht)] at hv
         exact he.has t v (qqe ht hv)
       unfold qw5 at hq
       cases hp:rec.pending with
       | none=>rw[hp] at hq;exact⟨_,he',hq⟩
       | some c=>
        rw[hp] at hq
        cases c with
        | ret=>exact wpIn_ret ⟨_,he',hq⟩
        | exit id=>exact wpIn_exit ⟨_,he',hq⟩
        | _=>exact hq.elim
    ·exact h.elim
  ·exact h.elim
 | refuse why=>intro Q env a w he h;exact h.elim
theorem qtk {body:Code} {Q:QE} {env:Env} {w:World} (h:qbj A P n body (qox A P n body Q) env w):ql1 P n A.rd body Q env w:=by
 intro a he b k cs hro
 obtain⟨e,a₁,w₁,hq,harr⟩:=qfc body _ env a w he h b (.inLoop body :: k) cs hro trivial (qs3 _ _)
 cases e with
 | normal=>
  obtain⟨env₁,he₁,hq⟩:=hq
  simp only[qox] at hq
  obtain⟨env₂,he₂,hq⟩:=qhh hq he₁
  obtain⟨e₂,a₂,w₂,hq₂,harr₂⟩:=hq a₁ he₂ b k cs hro
  exact⟨e₂,a₂,w₂,hq₂,.of_steps (StepsIn.trans harr (.one (fenced_calm (n:=0) trivial (qs3 _ _) rfl) stepR_inLoop)) harr₂⟩
 | exit id=>exact⟨.exit id,a₁,w₁,hq,.pass (x := .inLoop body) rfl (fun _ _ => .inl (by simp)) harr⟩
 | goto l=>exact⟨.goto l,a₁,w₁,hq,.pass (x := .inLoop body) rfl (fun _ _ => .inl (by simp)) harr⟩
 | ret=>exact⟨.ret,a₁,w₁,hq,.pass (x := .inLoop body) rfl (fun _ _ => .inl (by simp)) harr⟩
 | panic ch=>exact hq.elim
 | outgrown=>exact hq.elim
end
def nav (A:Ann) (P:Program) (n:Nat) (F:Code→QE→Prop):List Nat→Code→QE→Prop
 | [],c,Q=>F c Q
 | i :: p,c,Q=>match c,i with
  | .seq x y,0=>nav A P n F p x (qoz A (qhy y) (fun env w=>qbj A P n y Q env w) Q)
  | .seq _ y,_=>nav A P n F p y Q
  | .cond _ x _,0=>nav A P n F p x Q
  | .cond _ _ y,_=>nav A P n F p y Q
  | .block id c,_=>nav A P n F p c (qpo id Q)
  | .loop c,_=>nav A P n F p c (qox A P n c Q)
  | .scope c,0=>nav A P n F p c (qmu A P n c Q)
  | .scope c,l=>match findLabel c (l-1) with
   | some rest=>nav A P n F p rest (qmu A P n c Q)
   | none=>False
  | _,_=>False
theorem qdv {A:Ann} {P:Program} {n:Nat} {F G:Code→QE→Prop} (hFG:∀c Q,F c Q→G c Q):∀(p:List Nat) (c:Code) (Q:QE),nav A P n F p c Q→nav A P n G p c Q
 | [],c,Q,h=>hFG c Q h
 | i :: p,c,Q,h=>by
  cases c with
  | seq x y=>cases i with
   | zero=>exact qdv hFG p _ _ h
   | succ i=>exact qdv hFG p _ _ h
  | cond v x y=>cases i with
   | zero=>exact qdv hFG p _ _ h
   | succ i=>exact qdv hFG p _ _ h
  | block id c=>exact qdv hFG p _ _ h
  | loop c=>exact qdv hFG p _ _ h
  | scope c=>cases i with
   | zero=>exact qdv hFG p _ _ h
   | succ i=>
    unfold nav at h ⊢
    simp only at h ⊢
    cases hl:findLabel c (i+1-1) with
    | none=>rw[hl] at h;exact h.elim
    | some rest=>rw[hl] at h;exact qdv hFG p _ _ h
  | _=>exact h.elim
def qqa (A:Ann) (P:Program) (n:Nat) (env:Env) (w:World):Code→QE→Prop
 | .loop b,Q=>ql1 P n A.rd b Q env w
 | _,_=>False
def zce (A:Ann) (P:Program) (n:Nat) (env:Env) (w:World):Code→QE→Prop
 | .loop b,Q=>qbj A P n b (qox A P n b Q) env w
 | _,_=>False
theorem qah {A:Ann} {P:Program} {n:Nat} {env:Env} {w:World} {p:List Nat} {c:Code} {Q:QE} (h:nav A P n (zce A P n env w) p c Q):nav A P n (qqa A P n env w) p c Q:=
 qdv (fun c Q h=>by cases c <;> first | exact qtk h | exact h.elim) p c Q h
def qmw:List Value→Value
 | [v]=>v
 | vs => .tuple vs.toArray
def qit (P:Program):List ResultVar→Env→World→(List Value→Prop)→Prop
 | [],_,_,k=>k []
 | .tmp t :: r,env,w,k=>match lkT env t with
  | some v=>qit P r env w fun vs=>k (v :: vs)
  | none=>False
 | .cell x t :: r,env,w,k=>match lkT env x,ql7 P t,qgd P t with
  | some p,some true,some n=>C.an n p w fun v _=>qit P r env w fun vs=>k (v :: vs)
  | some p,some false,_=>C.ai p w fun v _=>qit P r env w fun vs=>k (v :: vs)
  | _,_,_=>False
def qmi (P:Program) (rs:List ResultVar) (env:Env) (w:World) (K:VK):Prop:=
 match lk env mkT with
 | none=>qit P rs env w fun vs=>K (qmw vs) w
 | some (.int _ D)=>w.heap[D.toNat]?=some (.deferred (some []))∧qit P rs env (w.putObj D.toNat (.deferred none)) fun vs=>K (qmw vs) (w.putObj D.toNat (.deferred none))
 | some _=>False
def zfc (P:Program) (rs:List ResultVar) (K:VK):QE:=fun e env w=>match e with
 | .normal=>qmi P rs env w K
 | .ret=>qmi P rs env w K
 | _=>False
def qhf:List Value→Nat→Env
 | [],_=>[]
 | v :: r,i=>(i,v) :: qhf r (i+1)
def zas (A:Ann) (P:Program) (f:FuncId) (args:List Value) (w:World) (K:VK):Prop:=
 match P.funcs[f]? with
 | some fn=>match fn.body with
  | some c=>cond (Nat.ble args.length fn.ntmps && Nat.ble args.length 1000 && A.rd.isNone) (qbj A P fn.ntmps c (zfc P fn.results.toList K) (qhf args 0) w) False
  | none=>False
 | none=>False
def qjy (a:Act):ResultVar→Sem Value
 | .tmp t=>pure (a.tmps.getD t undef)
 | .cell x t=>do loadVar t (←asAddr (a.tmps.getD x undef))
theorem qiu {P:Program} {n:Nat} {env:Env} {a:Act} {w:World} (he:Ext n env a):∀(rs:List ResultVar) (k:List Value→Prop),qit P rs env w k→
  ∃vs,(rs.mapM (qjy a)).run P w = .ok vs w∧k vs
 | [],k,h=>⟨[],by simp,h⟩
 | .tmp t :: r,k,h=>by
  simp only[qit] at h
  split at h
  ·rename_i v hv
   obtain⟨vs,hr,hk⟩:=qiu he r _ h
   refine⟨v :: vs,?_,hk⟩
   have:=he.has t v hv
   have e:a.tmps.getD t undef=v:=by simp[this]
   simp only[List.mapM_cons,qjy,y4g,y4h,y2m,hr,e]
  ·exact h.elim
 | .cell x t :: r,k,h=>by
  simp only[qit] at h
  split at h
  ·rename_i p m hp hag hm
   obtain⟨ad,cs,rfl,hc,h⟩:=h
   obtain⟨vs,hr,hk⟩:=qiu he r _ h
   refine⟨_,?_,hk⟩
   have e:a.tmps.getD x undef = .pointer (some ad):=by simp[he.has x _ hp]
   simp only[List.mapM_cons,qjy,y4g,e,asAddr,y4h,y2m,loadVar,qe4 hag,if_true,qb5 hm,loadCells,qfv P w ad m 0 #[] cs hc,hr]
   simp
  ·rename_i p q hp hag
   obtain⟨ad,v,rfl,hc,h⟩:=h
   obtain⟨vs,hr,hk⟩:=qiu he r _ h
   refine⟨_,?_,hk⟩
   have e:a.tmps.getD x undef = .pointer (some ad):=by simp[he.has x _ hp]
   simp only[List.mapM_cons,qjy,y4g,e,asAddr,y4h,y2m,loadVar,qe4 hag,y2b,if_false,run_load,hc,hr]
  ·exact h.elim
theorem qk3 {P:Program} {n:Nat} {env:Env} {a:Act} {w:World} {fn:Func} {K:List Value→Prop} (he:Ext n env a) (h:qit P fn.results.toList env w K):
  ∃vs,(results fn a.tmps).run P w = .ok (qmw vs) w∧K vs:=by
 obtain⟨vs,hr,hk⟩:=qiu he _ _ h
 refine⟨vs,?_,hk⟩
 have hres:results fn a.tmps=(do
   let vs ←fn.results.mapM (qjy a)
   pure (if h:vs.size=1 then vs[0] else .tuple vs)):=by
  unfold results
  congr 1
 rw[hres,Array.mapM_eq_mapM_toList]
 simp only[y4g,Sem.run_map]
 rw[hr]
 simp only[y2m,y4h,Result.ok.injEq,and_true]
 match vs with
 | []=>rfl
 | [v]=>rfl
 | v :: u :: r=>simp[qmw]
theorem qla:∀(l:List Value) (i t:Nat) (v:Value),lk (qhf l i) t=some v→i≤t∧l[t-i]?=some v
 | [],i,t,v,h=>by simp[qhf,lk] at h
 | u :: l,i,t,v,h=>by
  simp only[qhf] at h
  rw[qgq] at h
  by_cases hit:i=t
  ·subst hit;simp only[if_true,y2k] at h;subst h;simp
  ·rw[if_neg hit] at h
   obtain⟨h1,h2⟩:=qla l (i+1) t v h
   refine⟨by omega,?_⟩
   have:t-i=(t-(i+1))+1:=by omega
   rw[this,y0y]
   exact h2
theorem q9 {A:Ann} {P:Program} {f:FuncId} {args:List Value} {w:World} {K:VK} (h:zas A P f args w K):C.i P f args.toArray w K:=by
 unfold zas at h
 split at h
 ·rename_i fn hfn
  split at h
  ·rename_i c hc
   cases hb:(Nat.ble args.length fn.ntmps && Nat.ble args.length 1000 && A.rd.isNone) with
   | false=>rw[hb] at h;exact h.elim
   | true=>
    rw[hb] at h
    simp only[cond_true] at h
    simp only[y2y,y0l] at hb
    obtain⟨⟨hb1,hb2⟩,hrd⟩:=hb
    have hle:args.length≤fn.ntmps:=y1i hb1
    have hle2:args.length≤1000:=y1i hb2
    unfold C.i
    refine callsIn_wide.1 (callsIn_of_wp_marks (n:=0) hfn hc trivial ?_)
    have hmk:qdt (qhf args 0)=[]:=by
     unfold qdt
     cases hl:lk (qhf args 0) mkT with
     | none=>rfl
     | some v=>
      have:=(qla args 0 mkT v hl).2
      have:=(y0m.1 this).1
      simp only[mkT,Nat.sub_zero] at this
      omega
    have he:Ext fn.ntmps (qhf args 0) { tmps:=args.toArray ++ Array.replicate (fn.ntmps-args.toArray.size) undef,defers:=[] }:=by
     refine⟨hmk.symm,by simp;omega,fun t v hv=>?_⟩
     obtain⟨_,h2⟩:=qla args 0 t v (qg2 hv).2
     simp only[Nat.sub_zero] at h2
     have hlt:t<args.length:=(y0m.1 h2).1
     rw[y0f (by simpa using hlt)]
     simpa using h2
    have leave:∀(env:Env) (a:Act) (w:World),Ext fn.ntmps env a→qmi P fn.results.toList env w K→LeavesInM Fence.wide 0 P fn a.tmps (fun e w'=>∃v,e = .returned v∧K v w') a.defers .returning w:=by
     intro env a w he hq
     unfold qmi at hq
     rw[he.defers]
     unfold qdt
     split at hq
     ·rename_i hl
      obtain⟨vs,hr,hk⟩:=qk3 (fn:=fn) he hq
      rw[hl]
      exact⟨_,hr,_,rfl,hk⟩
     ·rename_i D hl
      obtain⟨hD,hq⟩:=hq
      obtain⟨vs,hr,hk⟩:=qk3 (fn:=fn) he hq
      rw[hl]
      exact⟨by simp,.inl ⟨_,_,rfl,run_takeDeferred hD,_,hr,_,rfl,hk⟩⟩
     ·exact hq.elim
    have hs:=qfc c _ _ _ w he h
    rw[hrd] at hs
    refine wpIn_mono hs fun e a w hq=>?_
    cases e with
    | normal=>
     obtain⟨env,he,hq⟩:=hq
     exact leave env a w he hq
    | ret=>
     obtain⟨env,he,hq⟩:=hq
     exact leave env a w he hq
    | exit id=>obtain⟨env,he,hq⟩:=hq;exact hq.elim
    | goto l=>obtain⟨env,he,hq⟩:=hq;exact hq.elim
    | panic ch=>exact hq.elim
    | outgrown=>exact hq.elim
  ·exact h.elim
 ·exact h.elim
def qd9:List Nat→Code→Code
 | [],c=>c
 | i :: p,c=>match c,i with
  | .seq x _,0=>qd9 p x
  | .seq _ y,_=>qd9 p y
  | .cond _ x _,0=>qd9 p x
  | .cond _ _ y,_=>qd9 p y
  | .block _ c,_=>qd9 p c
  | .loop c,_=>qd9 p c
  | .scope c,_=>qd9 p c
  | c,_=>c
def zeg:Code→Code
 | .rangeFunc _ _ x _=>x
 | c=>c
def zek:Code→Code
 | .rangeFunc _ _ _ x=>x
 | c=>c
def C.cy (l:Nat) (w:World) (F:World→Prop):Prop:=∃r,w.heap[l]?=some (.loop r)∧r.state = .ready∧F (w.putObj l (.loop { r with state := .busy }))
def C.cv (l:Nat) (pend:Option Code) (b:Bool) (st:LoopState) (w:World) (K:VK):Prop:=∃r,w.heap[l]?=some (.loop r)∧K (.bool b) (w.putObj l (.loop { r with state:=st,pending:=pend }))
def C.c1 (j:Option Code) (a b:Prop) (f:Nat→Prop):Prop:=match j with
 | none=>a
 | some .ret=>b
 | some (.exit id)=>f id
 | _=>False
def C.cd (v:Value) (w:World) (F:World→Prop):Prop:=match v with
 | .int _ D=>w.heap[D.toNat]?=some (.deferred (some []))∧F (w.putObj D.toNat (.deferred none))
 | _=>False
def qqw (l:Nat) (K:VK):QE:=fun e _ w=>match e with
 | .normal=>∃r,w.heap[l]?=some (.loop r)∧K (.bool true) (w.putObj l (.loop { r with state := .ready,pending:=none }))
 | .ret=>∃r,w.heap[l]?=some (.loop r)∧K (.bool false) (w.putObj l (.loop { r with state := .done,pending:=some .ret }))
 | .exit id=>∃r,w.heap[l]?=some (.loop r)∧K (.bool false) (w.putObj l (.loop { r with state := .done,pending:=some (.exit id) }))
 | _=>False
def zel (A:Ann) (P:Program) (n l:Nat) (bd:Code) (K:VK):QE:=fun e env w=>match e with
 | .normal=>∃r,w.heap[l]?=some (.loop r)∧r.state = .ready∧qbj A P n bd (qqw l K) env (w.putObj l (.loop { r with state := .busy }))
 | _=>False
def zc7 (A:Ann) (P:Program) (n l:Nat) (as bd:Code) (env:Env) (w:World) (K:VK):Prop:=
 qbj A P n as (zel A P n l bd K) env w
def putPs:List (Nat × Value)→Env→Env
 | [],env=>env
 | (t,v) :: r,env=>putPs r ((t,v) :: env)
theorem Ext.putPs {n:Nat}:∀(l:List (Nat × Value)) (env:Env) (a:Act),(∀x∈l,x.1<n∧x.1≠mkT)→Ext n env a→
  Ext n (putPs l env) { a with tmps:=l.foldl (fun tmps x=>tmps.setIfInBounds x.1 x.2) a.tmps }
 | [],env,a,_,h=>h
 | (t,v) :: r,env,a,hl,h=>by
  have h0:=hl (t,v) (by simp)
  have h1:=h.put v h0.1 h0.2
  exact Ext.putPs r _ _ (fun x hx=>hl x (by simp[hx])) h1
theorem qre {A:Ann} {P:Program} {n l:Nat} {r:Loop} {w:World} {args:Array Value} {env:Env} {K:VK} (hA:A.rd=some l) (hr:w.heap[l]?=some (.loop r)) (hn:r.tmps.size=n) (hps:args.size=r.params.size)
  (henv:∀t v,lkT env t=some v→r.tmps[t]?=some v) (hmk:lk env mkT=none) (hp:∀t∈r.params.toList,t<n∧t≠mkT)
  (h:zc7 A P n l r.assign r.body (putPs (r.params.toList.zip args.toList) env) w K):C.ch P l args w K:=by
 refine⟨_,_,_,_,run_yield hr hps,?_⟩
 have h0:Ext n env { tmps:=r.tmps,defers:=[] }:=⟨by simp[qdt,hmk],hn,henv⟩
 have h1:=Ext.putPs (r.params.toList.zip args.toList) env _ (fun x hx=>hp x.1 (List.of_mem_zip hx).1) h0
 have e:(r.params.zip args).foldl (fun tmps (x:Nat × Value)=>tmps.setIfInBounds x.1 x.2) r.tmps=(r.params.toList.zip args.toList).foldl (fun tmps x=>tmps.setIfInBounds x.1 x.2) r.tmps:=by
  rw[←Array.foldl_toList,Array.toList_zip]
 have hs:=qfc r.assign _ _ _ w h1 h
 rw[hA] at hs
 refine roundIn_of_wpIn (F:=Fence.wide) (n:=0) trivial ?_
 rw[show ((r.params.zip args).foldl (fun tmps (x:Nat × Value)=>match x with | (t,a)=>tmps.setIfInBounds t a) r.tmps)=(r.params.zip args).foldl (fun tmps (x:Nat × Value)=>tmps.setIfInBounds x.1 x.2) r.tmps from rfl,e]
 refine wpIn_mono hs fun e a w hq=>?_
 cases e with
 | normal=>
  obtain⟨env',he',r',hr',hst,hq⟩:=hq
  refine⟨_,run_beginRound hr' hst,?_⟩
  have hs:=qfc r.body _ _ _ _ he' hq
  rw[hA] at hs
  refine wpIn_mono hs fun e a w hq=>?_
  cases e with
  | normal=>obtain⟨_,_,r2,hr2,hk⟩:=hq;exact⟨_,_,run_endRound none hr2,_,rfl,hk⟩
  | ret=>obtain⟨_,_,r2,hr2,hk⟩:=hq;exact⟨_,_,run_endRound (some .ret) hr2,_,rfl,hk⟩
  | exit id=>obtain⟨_,_,r2,hr2,hk⟩:=hq;exact⟨_,_,run_endRound (some (.exit id)) hr2,_,rfl,hk⟩
  | goto l=>obtain⟨_,_,hq⟩:=hq;exact hq.elim
  | panic c=>exact hq.elim
  | outgrown=>exact hq.elim
 | ret=>obtain⟨_,_,hq⟩:=hq;exact hq.elim
 | exit id=>obtain⟨_,_,hq⟩:=hq;exact hq.elim
 | goto l=>obtain⟨_,_,hq⟩:=hq;exact hq.elim
 | panic c=>exact hq.elim
 | outgrown=>exact hq.elim
end Go.Proofs.YtcakfaakbpdklaaGreatDoorV
