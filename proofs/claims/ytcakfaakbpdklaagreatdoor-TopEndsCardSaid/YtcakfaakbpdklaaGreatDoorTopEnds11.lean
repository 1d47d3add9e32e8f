/- Part 11 of what the law needs: own lemmas, in the order in which they build. -/
import Derived.LaidMore
import Derived.OpenShut
import Derived.Stop.Joined
import Derived.Test.YtcakfaakbpdklaaGreatDoorRows
import Derived.Test.YtcakfaakbpdklaaGreatDoorProg
import Derived.Test.YtcakfaakbpdklaaGreatDoorTopEnds10
set_option linter.defProp false
set_option linter.unusedSimpArgs false
set_option linter.unusedVariables false
set_option maxRecDepth 10000
namespace Go.Proofs.QV
open Go Go.Proofs Go.RowKit
def Legal.more{cf:Cf}(L:cf.Legal):1<=cf.stack/\1<=cf.chunk/\2<=cf.pages:=by have g:∀i:Nat,i<10->(Gv.getD i (0,0)).1<=(Hc cf).getD i 0/\(Hc cf).getD i 0<=(Gv.getD i (0,0)).2:=L.1;have h0:=g 0 (by decide);have h7:=g 7 (by decide);have h8:=g 8 (by decide);simp[Gv,Hc]at h0 h7 h8;omega
def UF(cf:Cf):2<=cf.small.pages/\cf.small.pages<=8:=by
 unfold Cf.small;simp only;split
 ·omega
 split<;>omega
def Rj{cf:Cf}(h:2<=cf.pages/\cf.pages<=8):(C5 cf).toNat<=40:=by
 have hp:cf.pages=2∨cf.pages=3∨cf.pages=4∨cf.pages=5∨cf.pages=6∨cf.pages=7∨cf.pages=8:=by omega
 unfold C5;rcases hp with e|e|e|e|e|e|e<;>rw[e]<;>decide
section
variable{lo:Nat}{X:List Nat}{w0 w w':World}
def Kp.fr0(h:Kp lo X w0 w)(hf:Fr [] w w'):Kp lo X w0 w':=h.go hf (by simp) λq hq => .inl hq
end
section
variable{K:VK}{A:Ci}{g:Gw}{cf:Cf}{B:Int}{x:Ma}{w:World}
def CU.new(cf:Cf)(L:cf.Legal):CU cf 1 (Ma.new cf) (Cl.new cf):=by have L1:=C3.of L;have L8:=Legal.t8 L;have L2:=Legal.more L;exact⟨MJ.new cf L1.pg ⟨L8.1,L8.2.1⟩ L8.2.2,GZ.new L1.pg ⟨L8.1,L8.2.1⟩,VI.new cf,XI.new (by omega),Cu.new L1.pg ⟨L8.1,L8.2.1⟩⟩
def NL(hp:2<=cf.pages/\cf.pages<=8)(hk:∀w',Fr [] w w'->K (.int .i64 ((C5 cf).toNat:Int)) w'):I Tryz.prog 29 #[.agg (Dk cf).toArray] w K:=by
 refine F29.sh (Ar λb w1 hn1=>?_);have hb:=hn1.at_;have hk:=hk w1 hn1.fr;simp only[zv];refine Ad (v := .int .i64 cf.pages) hb rfl ?_
 try simp only[AP]
 refine Ad (v := .int .i64 cf.pages) hb rfl ?_
 try simp only[AP]
 refine Ad (v := .int .i64 cf.pages) hb rfl ?_
 try simp only[zv]
 refine Ad (v := .int .i64 cf.pages) hb rfl ?_
 try simp only[A7]
 refine⟨_,DR _ _ _ 64 (by decide),?_⟩
 try simp only[A7]
 unfold C5 at hk;have hp:cf.pages=2∨cf.pages=3∨cf.pages=4∨cf.pages=5∨cf.pages=6∨cf.pages=7∨cf.pages=8:=by omega
 rcases hp with e|e|e|e|e|e|e<;>rw[e]at hk ⊢<;>exact hk
def T2{W:World}{b:Nat}{gg:Cl}{E:Int}(L:cf.Legal)(hp:2<=cf.pages/\cf.pages<=8)(hW:Fr [] W w)(hs:DP W A cf.threads.toNat g)(hm:BS A g cf B w x)(hB:0<=B/\B<=10000)(ha:CU cf E x gg)(hE:E+300000<=1000000000)(hb:W.heap[b]?=some (.cells (Dk cf).toArray 23 (0,0)))(hk:∀w',Fr [] W w'->K (.bool true) w'):F6.k12 K (.pointer (some ⟨b,0,none⟩)) (.pointer (some ⟨A.ma,0,none⟩)) w:=by
 have L1:=C3.of L;have L2:=Legal.more L;have L8:=Legal.t8 L;obtain⟨p1,p2,p3,p4,_⟩:=ha.ends L1 L2.1 L2.2.1 ⟨by omega,hp.2⟩ hE;have hR:=Rj hp;have hV0:=ha.v.rin;refine F6.k12.to (P7 hm hV0 λrv nv vs fs w1 hf1 hR1 hN1=>Ar λbx w2 hn2=>?_);have hV:Ev w1 rv nv (x.view cf):=⟨hR1.rd,hN1.rd⟩;have l2:=hn2.is;have s1:=hf1.size;refine AA (x := .agg #[rv,nv]) hn2.at_ (by rw[hV.cells];rfl) hV.ones rfl λw3 hu3=>?_
 rw[hV.cells]at hu3;have f3:Fr [] w w3:=(hf1.trans hn2.fr).then hu3.fr λq hq => .inr (by rw[List.mem_singleton.1 hq];omega);have hR3:=(hR1.keep0 hn2.fr).keep hu3.fr λq hq=>by
  rw[List.mem_singleton.1 hq];exact .inr (.inr ⟨_,_,_,hn2.at_,by decide,by decide⟩)
 have hN3:=(hN1.keep0 hn2.fr).keep hu3.fr λq hq=>by
  rw[List.mem_singleton.1 hq];exact .inr (.inr ⟨_,_,_,hn2.at_,by decide,by decide⟩)
 have hKp:Kp w.heap.size (A.all cf.threads.toNat g) w3 w3:=Kp.new λq hq => .inl (hm.ltA q hq);have hW3:=hW.trans f3;have hm3:=hm.keep0 f3;refine A3 (hW3.at_ hb (by simp)) rfl (NL hp λw4 hf4=>?_);have hW4:=hW3.trans hf4;have hKp4:=hKp.fr0 hf4;refine KM hW4 hs (hm3.keep0 hf4) (by omega) L8.2.1 λn g5 w5 hT5 hm5=>?_;have hW5:=hs.fr hW4 hT5;have hs5:=hs.step hT5 hW4.size;have hKp5:=hKp4.step hT5;rw[decide_eq_true p1]
 try simp only[zv]
 refine A3 (hW5.at_ hb (by simp)) rfl (NL hp λw6 hf6=>?_);have hW6:=hW5.trans hf6;have hKp6:=hKp5.fr0 hf6;have p1':((x.fin cf (C5 cf).toNat).fin cf (C5 cf).toNat)=x.fin cf (C5 cf).toNat:=by
  have:∀n,(x.fin cf (C5 cf).toNat).fin cf n=x.fin cf (C5 cf).toNat:=λn=>by
   cases n with
   | zero=>rfl
   | succ n=>rw[KT,if_pos p1]
  exact this _
 refine Rs hW6 hs5 (hm5.keep0 hf6) (by omega) L8.2.1 (by rw[p1'];exact p1) λg7 w7 hT7 hm7=>?_;rw[p1']at hm7 ⊢;have hW7:=hs5.fr hW6 hT7;have hKp7:=hKp6.step hT7;rw[decide_eq_true p2];have hrin:Ee (((x.fin cf (C5 cf).toNat).step cf DY).1.fin cf (C5 cf).toNat):=by obtain⟨h1,q1⟩:=ha.fin L1 L2.1 L2.2.1 hp.2 (C5 cf).toNat (by omega) (Lv.all ha.j.c.k) (Iq ⟨by omega,hp.2⟩ ha.j.c);obtain⟨h2,_⟩:=h1.beginQ L1 L2.1 q1 (by omega);obtain⟨h3,_⟩:=h2.fin L1 L2.1 L2.2.1 hp.2 (C5 cf).toNat (by omega) (Lv.all h2.j.c.k) (Iq ⟨by omega,hp.2⟩ h2.j.c);exact h3.v.rin
 generalize (((x.fin cf (C5 cf).toNat).step cf DY).1.fin cf (C5 cf).toNat)=x3 at *;refine A9 (λw'=>Fr [] w7 w') λw8 hf8 _=>⟨hf8,?_⟩;have hrdx:∀w',Fr [] w7 w'->∃cs e fz,w'.heap[bx]?=some (.cells cs e fz)/\∀j,j<2->cs[0+j]?=[rv,nv][j]?:=λw' hw=>by
  refine⟨_,_,_,hw.at_ (hKp7.at_ hu3.at_ (by omega)) (by simp),λj hj=>?_⟩;have:j=0∨j=1:=by omega
  rcases this with rfl|rfl<;>rfl
 have hVat:∀w',Fr [] w7 w'->Ev w' rv nv (x.view cf):=λw' hw=>(hKp7.fr0 hw).view (Nat.le_refl _) hR3 hN3
 try simp only[zv]
 refine Bv rfl (by decide) hrdx ?_;refine⟨P7 (hm7.keep0 hf8) hrin λrv' nv' vs' fs' w9 hf9 hR9 hN9=>⟨hf8.trans hf9,?_⟩,trivial⟩;have f9:=hf8.trans hf9;refine⟨Xu (hVat w9 f9) ⟨hR9.rd,hN9.rd⟩ λw10 hf10=>⟨f9.trans hf10,?_⟩,trivial⟩;have f10:=f9.trans hf10;rw[decide_eq_true p3.symm]
 try simp only[zv]
 refine Bv rfl (by decide) hrdx ?_;refine⟨Qy (hm7.keep0 f10) λov w11 hf11 hn11 ho11=>⟨f10.trans hf11,?_⟩,trivial⟩;have f11:=f10.trans hf11;have hvl:(x.view cf).2.length<=2049:=by have:=OG (cf:=cf) hV0;unfold Ma.view;simpa using this
 refine⟨VD (hVat w11 f11) (by omega) λqv w12 hf12 hn12 hr12=>⟨f11.trans hf12,?_⟩,trivial⟩;have f12:=f11.trans hf12;refine⟨RT (ho11.rd.keep hf12) hr12 λw13 hf13=>⟨f12.trans hf13,?_⟩,trivial⟩;rw[decide_eq_true p4];exact hk w13 (hW7.trans (f12.trans hf13))
def Rv(L:cf.Legal)(hp:2<=cf.pages/\cf.pages<=8){W:World}{b:Nat}{u:Value}{l:List Cd}(hl:l.length<=70)(hu:Cp W u 7 (Fp l))(hb:W.heap[b]?=some (.cells (Dk cf).toArray 23 (0,0)))(hk:∀w',Fr [] W w'->K (.bool true) w'):
  ∀(d i:Nat) (w:World) (g:Gw) (y:Ma) (gg:Cl),i+d=l.length->Fr [] W w->BS A g cf (64*(i:Int)) w y->DP W A cf.threads.toNat g->CU cf (1+330*(i:Int)) y gg->
   F6.l9 K u (.pointer (some ⟨b,0,none⟩)) (.pointer (some ⟨A.ma,0,none⟩)) (.int .i64 (i:Int)) w:=by
 have L1:=C3.of L;have L2:=Legal.more L;intro d;induction d with
 | zero=>
  intro i w g y gg hi hf h1 hs ha;refine F6.l9.to (AH (hu.keep hf) ?_);rw[GK];simp only[zv,show ¬((i:Int)<(l.length:Int)) by omega];exact T2 L hp hf hs h1 (by omega) ha (by omega) hb hk
 | succ d ih=>
  intro i w g y gg hi hf h1 hs ha;have hlt:i<l.length:=by omega
  refine F6.l9.to (AH (hu.keep hf) ?_);rw[GK];simp only[zv,show (i:Int)<(l.length:Int) by omega];refine F6.k11.to (B8 (hu.keep hf) hlt ?_);refine Jw (s:=l[i]) h1 (by omega) λg1 w1 hT1 m1=>?_;refine F6.k10.to ?_
  try simp only[A7]
  rw[BO (n:=(i:Int)+1) (by omega),show (i:Int)+1=((i+1:Nat):Int) by omega];have e1:64*(i:Int)+64=64*((i+1:Nat):Int):=by omega
  have e2:1+330*(i:Int)+330=1+330*((i+1:Nat):Int):=by omega
  have ha1:=ha.stepG L1 L2.1 l[i] (by omega);rw[e1]at m1;rw[e2]at ha1;exact ih (i+1) w1 g1 _ _ (by omega) (hs.fr hf hT1) m1 (hs.step hT1 hf.size) ha1
def RR{u:Value}{l:List Cd}(hT:GY w)(hz:0<w.heap.size)(hu:Cp w u 7 (Fp l))(hk:∀w',Fr [] w w'->K (.bool true) w'):I Tryz.prog 6 #[.agg (Dk cf).toArray,u] w K:=by
 refine F6.sh (Ar λb w1 hn1=>Vh (hT.keep hn1.fr (by simp)) (Nat.lt_of_lt_of_le hz hn1.fr.size) λw2 hf2=>?_);have l1:=hn1.is;have f2:=hn1.fr.trans hf2;have hb2:=hf2.at_ hn1.at_ (by simp)
 try simp only[zv]
 refine F6.k3.to (A3 hb2 rfl (Yt λw3 hf3=>?_));have f3:=f2.trans hf3;have hb3:=hf3.at_ hb2 (by simp);refine AA (x := .agg (Dk cf.small).toArray) hb3 rfl (by simp[Dk,Value.cells,Value.oneCell']) rfl λw4 hu4=>A3 hu4.at_ rfl ?_;have f4:Fr [] w w4:=f3.then hu4.fr (by simp;omega);have hp:=UF cf;have hb4:w4.heap[b]?=some (.cells (Dk cf.small).toArray 23 (0,0)):=hu4.at_;generalize cf.small=cf2 at *
 refine ME (λL=>?_) λL w5 hf5=>?_
 rotate_left
 ·simp only[zv,ne_eq,show ¬((6:Int)=0) by decide,not_false_eq_true];exact hk w5 (f4.trans hf5)
 intro w5 hf5;have f5:=f4.trans hf5;have hb5:=hf5.at_ hb4 (by simp);simp only[zv,eq_self,ne_eq,not_true_eq_false];refine F6.k6.to (A3 hb5 rfl ?_);refine P8 (hT.keep f5 (by simp)) (Nat.lt_of_lt_of_le hz f5.size) (λL'=>absurd L L') λ_ A g w6 hf6 hg6 hn6 hm6=>?_
 try simp only[zv]
 refine Ym (W:=w5) (hu.keep f5) hf6 λu' hu'=>?_;have hs6:DP w5 A cf2.threads.toNat g:=DP.of hm6 hn6;exact Rv (W:=w5) L hp (l:=l.take 70) (by rw[List.length_take];omega) hu' hb5 (λw' hw=>hk w' (f5.trans hw)) (l.take 70).length 0 w6 g (Ma.new cf2) (Cl.new cf2) (by omega) hf6 hm6 hs6 (CU.new cf2 L)
end
section
open Go.ChangeShapes Go.WideShapes Go.ChangeAt
def Ur{M:Checked}{os:Os}{f:FuncId}{fn:Func}{s:ChangeSpec}{H:Type}{enc:TypeId × Value->H}{LD:List (String × DataW Unit)}(own:ownKnob M.prog.godebug=none)(started:os.Started)(noInit:M.prog.inits.idxOf? f=none)(hfn:M.prog.funcs[f]?=some fn)(witness:∃(w:World) (tape:Tape) (i:Input),w.os=os/\(w.forCall tape i).Shaped M.prog/\i.vars=[]/\Input.okWide M.prog (w.forCall tape i) .any w.heap.size f i/\
   ((s.pre enc M.prog fn [] false (w.forCall tape i).memory i.args/\laidMetH M.prog LD (w.forCall tape i).memory)/\sizedMet enc M.prog fn (OpenSpec.ofChange s) false (w.forCall tape i).memory i.args)/\({}:Assume).holds M.prog (lone (Frame.enter M.prog f i.args .normal) [] (w.forCall tape i)))(hvars:s.vars=[])(hpv:s.plain.varTypes M.prog=[])(hlaid:laidOutB M.prog=true)(hread:(fn.params.toList.all λt=>M.prog.readableRec t && Nat.blt t M.prog.types.size)=true){tb:TypeId}(hres:fn.resultTypes = #[tb])(hub:M.prog.underlying tb=some .bool)(hspec:∀ds:List (DataW H),ds.length=fn.params.toList.length->s.fn H ds={ results:=[.lit (.bool true)],args:=ds })(contract:∀(W:World) (args:Array Value) (ds:List (DataW H)) (ps:List MemPlace),WE enc M.prog fn W args ds ps->laidMetH M.prog LD W->I M.prog f args W λv W'=>v=.bool true/\Fr [] W W'):
  ReturnsInHanded {} M os f .any (λw args=>(s.pre enc M.prog fn [] false w args/\laidMetH M.prog LD w)/\sizedMet enc M.prog fn (OpenSpec.ofChange s) false w args) (s.post enc M.prog fn false true false false):=by
 refine returnsInHanded_of_change_and (X:=λw _=>laidMetH M.prog LD w) (λ_ _ _ hh h=>h.of_heap hh) own started noInit hfn witness ?_;intro W base args ds gs before hval hW hcnd hsz hL _;have hW':=hW;obtain⟨p,q,hA,hV,rfl,hfz,hnd⟩:=hW;rw[hvars]at hV;obtain⟨rfl,rfl⟩:=trodVars_none hV;simp only[List.append_nil] at *;have hlt:∀x∈p,x.block<W.heap.size:=λx hx=>hW'.lt x hx;rw[hpv,List.append_nil]at hsz
 refine Calls.mono (contract W args ds p ⟨hA,⟨base,hval⟩,hsz,hlt⟩ hL) ?_;rintro e W' ⟨v,rfl,rfl,hf⟩;refine⟨_,rfl,ds,[],p,[],p,[],hW',?_,?_,?_,hf.below.frame _,λh=>by cases h⟩
 ·rw[List.append_nil,hspec ds (GU _ _ _ _ hA).2,hres];exact trodAll_mk1 (shut_bool hub _)
 ·rw[List.append_nil,hspec ds (GU _ _ _ _ hA).2];refine Js hlaid hf.below _ _ _ _ (λt ht=>?_) hA hlt;have:=List.all_eq_true.1 hread t ht;simp only[Bool.and_eq_true]at this;exact⟨this.1,by simpa[Nat.blt_eq] using this.2⟩
 ·rw[List.append_nil,hspec ds (GU _ _ _ _ hA).2,hvars];rfl
abbrev LD : List (String × DataW Unit) := [("math/bits.deBruijn64tab", Go.Proofs.YtcakfaakbpdklaaGreatDoor.Rows.laid_math_bits_deBruijn64tab)]
def YY : Tryz.prog.globalNamed "math/bits.deBruijn64tab" = some 0 := by kernel_rfl
def Zv:(Tryz.prog.globals[0]?).map (·.type)=some 334:=by kernel_rfl
def TZ(os:Os)(args:Array Value):laidMetH Tryz.prog LD ((World.doorLaid Tryz.prog 400 os).forCall (λ_ _=>0) ⟨#[],args,[]⟩).memory:=
 laidMetH_of_parts3 (fuel:=8) (laidMet_of_run' 8 (by kernel_rfl) (by kernel_rfl)) (by kernel_rfl) (by kernel_rfl)
def Yd:∀(n:Nat) (L:List Nat) (xs:List (DataW Unit × List MemPlace)) (l:List Value) (sp:Nat->Bool) (hd:Bool) (m:Nat) (W:World),xs.map (·.1)=L.map (λk:Nat=>DataW.lit (.int .u8 (k:Int)))->(∀i,i<L.length->DataW.trod (λ_:TypeId × Value=>()) Tryz.prog W n sp hd m 5 ((l.drop (i*1)).take 1)=xs[i]?)->∀j,j<L.length->l[j]?=some (.int .u8 (L.getD j 0:Nat)):=by
 intro n L xs l sp hd m W hm hel j hj;have hlen:xs.length=L.length:=by have:=congrArg List.length hm;simpa using this
 have h0:=hel j hj;rw[List.getElem?_eq_getElem (by omega)]at h0;obtain⟨k,e1,e2,_⟩:=DataW.trod_int Tryz.underlying5 h0;have e3:(xs.map (·.1))[j]?=(L.map λk:Nat=>DataW.lit (.int .u8 (k:Int)))[j]?:=by rw[hm]
 rw[List.getElem?_map,List.getElem?_map,List.getElem?_eq_getElem (by omega),List.getElem?_eq_getElem hj]at e3;simp only[Option.map_some,Option.some.injEq]at e3;rw[e2]at e3;have hk:k=(L[j]:Nat):=by simpa using e3
 rw[Nat.mul_one]at e1;have e4:(l.drop j)[0]?=some (.int .u8 k):=by
  have:((l.drop j).take 1)[0]?=some (.int .u8 k):=by rw[e1];rfl
  rwa [List.getElem?_take_of_lt (by decide)]at this
 rw[List.getElem?_drop,Nat.add_zero]at e4;have hg:L.getD j 0=L[j]:=by simp[List.getD_eq_getElem?_getD,List.getElem?_eq_getElem hj]
 rw[e4,hk,hg]
def Wn{W:World}(h:laidMetH Tryz.prog LD W):GY W/\0<W.heap.size:=by
 rw[MakeChecks.laidMetH_plain _ _ _ (by kernel_rfl)]at h;obtain⟨ps,⟨g0,t0,cs0,f0,p0,q0,hg0,ht0,hv0,hd0,_,_⟩,_,_⟩:=h;obtain rfl:=Option.some.inj (YY.symm.trans hg0);obtain rfl:=Option.some.inj (Zv.symm.trans ht0);obtain⟨xs,m,rfl,hx,hl,hn,hel⟩:=DataW.trod_array Tryz.underlying334 hd0;simp only[Prod.mk.injEq]at hx;have c5:Tryz.prog.cellsOf 5=1:=by kernel_rfl
 rw[c5]at hel;have hcell:∀j,j<64->W.cell? ⟨0,j,none⟩=some (.int .u8 (Lib.deBruijn64tab.getD j 0:Nat)):=λj hj=>by
  have hj':j<Lib.deBruijn64tab.length:=hj;rw[World.var?_cell hg0 hv0 j];have hx1:xs.map (·.1)=Lib.deBruijn64tab.map (λk:Nat=>DataW.lit (.int .u8 (k:Int))):=by
   have h1:=hx.1;have h2:(Go.Proofs.YtcakfaakbpdklaaGreatDoor.Rows.laid_math_bits_deBruijn64tab:DataW Unit)=.agg (Lib.deBruijn64tab.map λk:Nat=>DataW.lit (.int .u8 (k:Int))):=by kernel_rfl
   rw[h2]at h1;simpa using h1.symm
  have:=Yd _ Lib.deBruijn64tab xs cs0.toList _ _ m W hx1 (λi hi=>hel i hi) j hj';simpa using this
 have h0:=hcell 0 (by decide);cases hb:W.heap[0]? with
 | none=>simp[World.cell?,hb]at h0
 | some o=>
  cases o with
  | cells cs e fz=>
   refine⟨⟨cs,e,fz,hb,λj hj=>?_⟩,(Array.getElem?_eq_some_iff.1 hb).1⟩;have:=hcell j hj;simpa[World.cell?,hb] using this
  | _=>simp[World.cell?,hb]at h0
end
def Dy{k:IntKind}{ks:List CK}{x:List Value}(h:Dr (.int k::ks) x):∃n y,x=.int k n::y/\Dr ks y:=by
 cases x with
 | nil=>exact h.elim
 | cons a y=>
  obtain⟨⟨n,ha,_⟩,hy⟩:=h;exact⟨n,y,by rw[ha],hy⟩
def SK{x:List Value}(h:Dr [] x):x=[]:=by
 cases x with
 | nil=>rfl
 | cons a y=>exact h.elim
def Y8{x:List Value}(h:Dr [.int .i64,.int .i64,.int .i64,.int .i64,.int .i64,.int .i64,.int .i64,.int .i64,.int .i64,.int .i64] x):∃cf:Cf,x=Dk cf:=by obtain⟨a,x1,e1,h1⟩:=Dy h;obtain⟨b,x2,e2,h2⟩:=Dy h1;obtain⟨c,x3,e3,h3⟩:=Dy h2;obtain⟨d,x4,e4,h4⟩:=Dy h3;obtain⟨e,x5,e5,h5⟩:=Dy h4;obtain⟨f,x6,e6,h6⟩:=Dy h5;obtain⟨g,x7,e7,h7⟩:=Dy h6;obtain⟨i,x8,e8,h8⟩:=Dy h7;obtain⟨j,x9,e9,h9⟩:=Dy h8;obtain⟨k,x10,e10,h10⟩:=Dy h9;have e0:=SK h10;rw[e1,e2,e3,e4,e5,e6,e7,e8,e9,e10,e0];exact⟨⟨a,b,c,d,e,f,g,i,j,k⟩,rfl⟩
def YA{x:List Value}(h:Dr [.int .i64,.int .i64,.int .i64,.int .i64,.int .i64,.int .i64,.int .i64] x):∃s:Cd,[x]=Fp [s]:=by obtain⟨a,x1,e1,h1⟩:=Dy h;obtain⟨b,x2,e2,h2⟩:=Dy h1;obtain⟨c,x3,e3,h3⟩:=Dy h2;obtain⟨d,x4,e4,h4⟩:=Dy h3;obtain⟨e,x5,e5,h5⟩:=Dy h4;obtain⟨f,x6,e6,h6⟩:=Dy h5;obtain⟨g,x7,e7,h7⟩:=Dy h6;have e0:=SK h7;rw[e1,e2,e3,e4,e5,e6,e7,e0];exact⟨⟨a,b,c,d,e,f,g⟩,rfl⟩
theorem Ti:∀(xs:List (List Value)),(∀x∈xs,Dr [.int .i64,.int .i64,.int .i64,.int .i64,.int .i64,.int .i64,.int .i64] x)->∃l,xs=Fp l
 | [],_=>⟨[],rfl⟩
 | x::xs,h=>by
  obtain⟨l,hl⟩:=Ti xs λy hy=>h y (by simp[hy]);obtain⟨s,hs⟩:=YA (h x (by simp));refine⟨s::l,?_⟩;have e1:Fp (s::l)=Fp [s]++Fp l:=by simp[Fp]
  rw[e1, <-hs,hl];rfl
end Go.Proofs.QV
