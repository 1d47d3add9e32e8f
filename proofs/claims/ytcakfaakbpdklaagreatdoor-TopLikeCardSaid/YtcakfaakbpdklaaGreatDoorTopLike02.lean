/- Part 2 of what the law needs: own lemmas, in the order in which they build. -/
import Derived.Laws.StructEq
import Derived.Laws.Bits128
import Derived.Shelf.Spec.TrailingZeros
import Derived.Test.YtcakfaakbpdklaaGreatDoorProg
import Derived.Test.YtcakfaakbpdklaaGreatDoorTopLike01
set_option linter.defProp false
set_option linter.unusedSimpArgs false
set_option linter.unusedVariables false
set_option maxRecDepth 100000
namespace Go.Proofs.QV
open Go Go.Proofs.Tryz
open Go.Proofs.Tryz renaming prog->vp
open Go.IntKind renaming i64->vy
open Go.Value renaming int->vq,pointer->vr,slice->vt,tuple->vu,bool->vw
open Option renaming some->vz
open Option renaming none->v6
open Bool renaming true->v7
open Bool renaming false->v8
open Go renaming Value->wc
open Go renaming World->wd
open Go renaming Program->we
open Or renaming inr->wh
open Go.Obj renaming cells->wj
section
open Go.Proofs Go.RowKit
def DO(a:Int × Int):wc := .agg #[vq vy a.1,vq vy a.2]
def WC : ∃ f g : Field, (Tryz.prog.fieldsOf 265).toList = [f, g] /\ (f.name != "_") = v7 /\ (g.name != "_") = v7 /\ f.type = 3 /\ g.type = 3 /\ f.offset = 0 /\ g.offset = 1 := ⟨(Tryz.prog.fieldsOf 265)[0]!, (Tryz.prog.fieldsOf 265)[1]!, by kernel_rfl, by kernel_rfl, by kernel_rfl, by kernel_rfl, by kernel_rfl, by kernel_rfl, by kernel_rfl⟩
def R8(x y:Int)(w:wd):(part 3 #[vq vy x,vq vy y] 0).run vp w=.ok (vq vy x) w:=by kernel_rfl
def R9(x y:Int)(w:wd):(part 3 #[vq vy x,vq vy y] 1).run vp w=.ok (vq vy y) w:=by kernel_rfl
def O8(x y:Int)(w:wd)(d:Nat):(Op.equalIn (d+1) 3 (vq vy x) (vq vy y)).run vp w=.ok (x == y) w:=by simp[Op.equalIn,o9 Tryz.underlying3]
def Ts(a b:Int × Int)(w:wd)(d:Nat):(Op.equalIn (d+1+1) 265 (DO a) (DO b)).run vp w=.ok (decide (a.1=b.1) && decide (a.2=b.2)) w:=by
 obtain⟨f,g,e,hf,hg,tf,tg,of,og⟩:=WC;have hf : (f.name ≠ "_") = True := by simpa using hf
 have hg : (g.name ≠ "_") = True := by simpa using hg
 unfold DO;rw[run_equalIn_struct w (d+1) 265 _ _ Tryz.underlying265 (by kernel_rfl),e];simp only[Op.eqFields,hf,hg,tf,tg,of,og,vj,u1,R8,O8,zN];by_cases h1:a.1=b.1<;>by_cases h2:a.2=b.2<;>simp[h1,h2,O8,R9]
def WB(a b:Int × Int)(w:wd):(Op.equal 265 (DO a) (DO b)).run vp w=.ok (decide (a=b)) w:=by
 have e:decide (a=b)=(decide (a.1=b.1) && decide (a.2=b.2)):=by rw[f9];simp[uz]
 rw[e];exact Ts a b w 9998
def WA(e:Bool)(a:Int × Int)(w:wd)(d:Nat):(Instr.checkKey e (d+1+1) 265 (DO a)).run vp w=.ok () w:=by kernel_rfl
def HP:Hz vp 265 DO:=
 Hz.asked Tryz.underlying265 (λe a w=>WA e a w 9998) (λa b=>rfl) WB (λa=>by
  have h:∀d,Instr.sameBits (d+1+1) (DO a) (DO a)=v7:=λd=>by simp[DO,Instr.sameBits]
  exact h 9998)
section
variable{K:VK}{w:wd}
def Ex{a b c:Int}(h:K (vq vy (if a<b then b else if a>c then c else a)) w):I vp 66 #[vq vy a,vq vy b,vq vy c] w K:=by
 refine F66.sh ?_;by_cases h1:a<b
 ·simp only[zv,h1]
  rwa [vn h1]at h
 ·rw[vm h1]at h;by_cases h2:a>c
  ·simp only[zv,h1,h2]
   rwa [vn h2]at h
  ·simp only[zv,h1,h2];rw[vm h2]at h;exact F66.k5.to h
def DV{k:Int}(h:K (vq vy (BT k)) w):I vp 175 #[vq vy k] w K:=by
 refine F175.sh ?_;by_cases h1:k<1
 ·simp only[zv,h1]
  rwa [show BT k=0 by unfold BT;repeat (rw[vm (by omega)])]at h
 ·by_cases h2:k≥5
  ·simp only[zv,h1,h2]
   rwa [show BT k=0 by unfold BT;repeat (rw[vm (by omega)])]at h
  ·simp only[zv,h1,h2];refine F175.k3.to ?_;simp only[AO];rw[BN (n:=k-1) (by omega)];have:k=1∨k=2∨k=3∨k=4:=by omega
   rcases this with rfl|rfl|rfl|rfl
   ·exact⟨vq vy 2,by kernel_rfl,h⟩
   ·exact⟨vq vy 4,by kernel_rfl,h⟩
   ·exact⟨vq vy 8,by kernel_rfl,h⟩
   ·exact⟨vq vy 16,by kernel_rfl,h⟩
end
end
section
variable{P:we}{w:wd}{t:TypeId}
def Nl{ft:TypeId}{k:IntKind}(hu:P.underlying ft=vz (.int k)){xs:Array wc}{o:Nat}{v:wc}(hx:xs[o]?=vz v):(part ft xs o).run P w=.ok v w:=by simp[part,isAgg,underlying,hu,hx]
def NG{ft:TypeId}{k:IntKind}(hu:P.underlying ft=vz (.int k))(d:Nat)(a b:Int):(Op.equalIn (d+1) ft (vq k a) (vq k b)).run P w=.ok (a == b) w:=by simp[Op.equalIn,underlying,hu]
def Fi:List IntKind->List Int->List wc
 | k::ks,n::ns=>vq k n::Fi ks ns
 | _,_=>[]
def Gx(P:we):List Field->List IntKind->Nat->Bool
 | [],[],_=>v7
 | f :: fs, k :: ks, i => !(f.name == "_") && (match P.underlying f.type with | vz (.int k') => k' == k | _ => v8) && Nat.beq f.offset i && Gx P fs ks (i + 1)
 | _,_,_=>v8
theorem I4(d:Nat)(X Y:Array wc):∀(fs:List Field) (ks:List IntKind) (i:Nat) (xs ys:List Int),Gx P fs ks i=v7->xs.length=ks.length->ys.length=ks.length->
  (∀j,j<ks.length->X[i+j]?=(Fi ks xs)[j]?)->(∀j,j<ks.length->Y[i+j]?=(Fi ks ys)[j]?)->
  (Op.eqFields (d+1) X Y fs).run P w=.ok (xs == ys) w
 | [],[],i,[],[],_,_,_,_,_=>by simp[Op.eqFields]
 | f::fs,k::ks,i,a::xs,b::ys,h,hx,hy,hX,hY=>by
  simp only[Gx,zS,zD]at h;obtain⟨⟨⟨h1,h2⟩,h3⟩,h4⟩:=h;have hu:P.underlying f.type=vz (.int k):=by
   split at h2
   ·rename_i k' hk;rw[hk];simp only[beq_iff_eq]at h2;rw[h2]
   ·cases h2
  have ho:f.offset=i:=yI h3;have hn : f.name ≠ "_" := by simpa using h1
  have x0:X[f.offset]?=vz (vq k a):=by have:=hX 0 (by simp);simpa[ho,Fi] using this
  have y0:Y[f.offset]?=vz (vq k b):=by have:=hY 0 (by simp);simpa[ho,Fi] using this
  rw[Op.eqFields];simp only[vn hn,u1,Nl hu x0,Nl hu y0,NG hu,zN];by_cases hab:a=b
  ·have hb:(a == b)=v7:=by simpa using hab
   have ih:=I4 d X Y fs ks (i+1) xs ys h4 (by simpa using hx) (by simpa using hy)
    (λj hj=>by have:=hX (j+1) (by simp;omega);rw[show i+(j+1)=i+1+j by omega]at this;simpa[Fi] using this)
    (λj hj=>by have:=hY (j+1) (by simp;omega);rw[show i+(j+1)=i+1+j by omega]at this;simpa[Fi] using this)
   simp[hab,ih]
  ·have hb:(a == b)=v8:=by simpa using hab
   have:(a::xs == b::ys)=v8:=by simp[hab]
   simp[hb,this]
 | [],_::_,_,_,_,h,_,_,_,_=>by simp[Gx]at h
 | _::_,[],_,_,_,h,_,_,_,_=>by simp[Gx]at h
 | _::_,_::_,_,[],_,_,h,_,_,_=>by simp at h
 | _::_,_::_,_,_,[],_,_,h,_,_=>by simp at h
 | [],[],_,_::_,_,_,h,_,_,_=>by simp at h
 | [],[],_,_,_::_,_,_,h,_,_=>by simp at h
def IM{fs:Array Field}{ks:List IntKind}(d:Nat)(hu:P.underlying t=vz (.struct fs))(hp:P.stoodInHeld t=v8)(hr:Gx P fs.toList ks 0=v7)(xs ys:List Int)(hx:xs.length=ks.length)(hy:ys.length=ks.length):
  (Op.equalIn (d+2) t (.agg (Fi ks xs).toArray) (.agg (Fi ks ys).toArray)).run P w=.ok (xs == ys) w:=by
 have hf:P.fieldsOf t=fs:=by simp[we.fieldsOf,hu]
 rw[run_equalIn_struct (P:=P) w (d+1) t _ _ (by rw[hf];exact hu) hp,hf];exact I4 d _ _ fs.toList ks 0 xs ys hr hx hy (λj hj=>by simp) (λj hj=>by simp)
def Ld{fs:Array Field}{ks:List IntKind}(x y:Operand)(hu:P.underlying t=vz (.struct fs))(hg:P.eqGuardType P.depth t=v8)(hp:P.stoodInHeld t=v8)(hr:Gx P fs.toList ks 0=v7)(xs ys:List Int)(hx:xs.length=ks.length)(hy:ys.length=ks.length):
  (do eqGuard .eql t x y (.agg (Fi ks xs).toArray) (.agg (Fi ks ys).toArray);binOp .eql t (.agg (Fi ks xs).toArray) (.agg (Fi ks ys).toArray):Sem wc).run P w=.ok (vw (xs == ys)) w:=
 Jt (by simp[eqGuard,hg]) rfl (IM 9998 hu hp hr xs ys hx hy)
def Nf{fs:Array Field}{ks:List IntKind}(x y:Operand)(hu:P.underlying t=vz (.struct fs))(hg:P.eqGuardType P.depth t=v8)(hp:P.stoodInHeld t=v8)(hr:Gx P fs.toList ks 0=v7)(xs ys:List Int)(hx:xs.length=ks.length)(hy:ys.length=ks.length):
  (do eqGuard .neq t x y (.agg (Fi ks xs).toArray) (.agg (Fi ks ys).toArray);binOp .neq t (.agg (Fi ks xs).toArray) (.agg (Fi ks ys).toArray):Sem wc).run P w=.ok (vw (!(xs == ys))) w:=
 O3 (by simp[eqGuard,hg]) rfl (IM 9998 hu hp hr xs ys hx hy)
def M7(x y:Operand)(a:Int):(do eqGuard .and t x y (vq vy a) (vq vy 1);binOp .and t (vq vy a) (vq vy 1):Sem wc).run P w=.ok (vq vy (a % 2)) w:=by
 have h1:(BitVec.ofInt 64 1).toNat=2 ^ 1-1:=by decide
 have key:(BitVec.ofInt 64 a &&& BitVec.ofInt 64 1).toNat=(a % ((2 ^ 64:Nat):Int)).toNat % 2 ^ 1:=by rw[BitVec.toNat_and,BitVec.toNat_ofInt,h1,Nat.and_two_pow_sub_one_eq_mod]
 have e:IntKind.i64.wrap ((BitVec.ofInt 64 a &&& BitVec.ofInt 64 1).toNat:Nat)=a % 2:=by rw[key,IntKind.wrap_i64];omega
 have e':(Op.intBits .and vy a 1:Sem wc)=pure (vq vy (IntKind.i64.wrap ((BitVec.ofInt 64 a &&& BitVec.ofInt 64 1).toNat:Nat))):=rfl;simp only[u1,Cz,zN];show (Op.intBits .and vy a 1).run P w=_;rw[e',e];rfl
def Tu(x y:Operand)(a:Int):(do eqGuard .shr t x y (vq vy a) (vq .u64 1);binOp .shr t (vq vy a) (vq .u64 1):Sem wc).run P w=.ok (vq vy (a / 2)) w:=by
 simp only[u1,Cz,zN];show (Op.shift .shr vy a .u64 1).run P w=_;have:a.fdiv 2=a / 2:=by rw[wZ _ (by decide)]
 simp[Op.shift,IntKind.bits,this]
def DT(x y:Operand)(a b:Int)(hb:b≠0):(do eqGuard .quo t x y (vq vy a) (vq vy b);binOp .quo t (vq vy a) (vq vy b):Sem wc).run P w=.ok (vq vy (IntKind.i64.wrap (a.tdiv b))) w:=by simp only[u1,Cz,zN];show (Op.intDiv .quo vy a b).run P w=_;simp[Op.intDiv,hb]
def FL(x y:Operand)(a b:Int)(hb:b≠0):(do eqGuard .rem t x y (vq vy a) (vq vy b);binOp .rem t (vq vy a) (vq vy b):Sem wc).run P w=.ok (vq vy (a.tmod b)) w:=by simp only[u1,Cz,zN];show (Op.intDiv .rem vy a b).run P w=_;simp[Op.intDiv,hb]
end
section
open Go.Proofs Go.RowKit
def O1{k:Int}(h1:1<=k)(h2:k<5):BT k>0:=by
 have:k=1∨k=2∨k=3∨k=4:=by omega
 rcases this with rfl|rfl|rfl|rfl<;>decide
def MH{k:Int}(h:k<1∨5<=k):BT k=0:=by
 unfold BT
 repeat (rw[vm (by omega)])
def J9{k:Int}(h:k<1∨5<=k):BQ k=0:=by
 unfold BQ
 repeat (rw[vm (by omega)])
def Pp{k:Int}(h1:1<=k)(h2:k<5):IntKind.i64.wrap ((32:Int).tdiv (BT k))=BQ k:=by
 have:k=1∨k=2∨k=3∨k=4:=by omega
 rcases this with rfl|rfl|rfl|rfl<;>decide
def IL(k:Int):0<=BT k/\BT k<=16:=by
 by_cases h:k<1∨5<=k
 ·rw[MH h];omega
 ·have:k=1∨k=2∨k=3∨k=4:=by omega
  rcases this with rfl|rfl|rfl|rfl<;>decide
def Wu{k:Int}(h:BT k≠0):1<=k/\k<5:=by apply xF;intro hc;exact h (MH (by omega))
def Ee(k:Int):0<=BQ k/\BQ k<=16:=by
 by_cases h:k<1∨5<=k
 ·rw[J9 h];omega
 ·have:k=1∨k=2∨k=3∨k=4:=by omega
  rcases this with rfl|rfl|rfl|rfl<;>decide
section
variable{K:VK}{w:wd}
def Pb{n:Int}(h:K (vq vy (CC n)) w):I vp 117 #[vq vy n] w K:=by
 refine F117.sh ?_;unfold CC at h;by_cases h1:n<0
 ·simp only[zv,h1]
  rwa [vn (.inl h1)]at h
 simp only[zv,h1];by_cases h2:n>127
 ·simp only[zv,h2]
  rwa [vn (wh h2)]at h
 simp only[zv,h2];rw[vm (by omega)]at h;refine F117.k3.to ?_;have step:∀k:Int,1<=k->k<5->(¬BT k<n+1->K (vq vy k) w)->(BT k<n+1->F117.l4 K (vq vy n) (vq vy (k+1)) w)->F117.l4 K (vq vy n) (vq vy k) w:=λk k1 k5 a b=>by
  refine F117.l4.to ?_;simp only[zv,k5];refine DV ?_;simp only[Au];rw[BN (n:=n+1) (by omega)];by_cases c:BT k<n+1
  ·simp only[zv,c];refine F117.k5.to ?_;simp only[AC];rw[BN (n:=k+1) (by omega)];exact b c
  ·simp only[zv,c];exact F117.k6.to (a c)
 have e1:BT 1=2:=rfl;have e2:BT 2=4:=rfl;have e3:BT 3=8:=rfl;have e4:BT 4=16:=rfl;refine step 1 (by omega) (by omega) (λa=>?_) λa1=>step 2 (by omega) (by omega) (λa=>?_) λa2=>step 3 (by omega) (by omega) (λa=>?_) λa3=>step 4 (by omega) (by omega) (λa=>?_) λa4=>?_
 ·rwa [vn (by omega)]at h
 ·rw[vm (by omega)]at h
  rwa [vn (by omega)]at h
 ·rw[vm (by omega),vm (by omega)]at h
  rwa [vn (by omega)]at h
 ·rw[vm (by omega),vm (by omega),vm (by omega)]at h
  rwa [vn (by omega)]at h
 ·rw[vm (by omega),vm (by omega),vm (by omega),vm (by omega)]at h;refine F117.l4.to ?_;simp only[zv,show ¬((4+1:Int)<5) by omega];exact F117.k6.to h
def KS{k:Int}(h:K (vq vy (BQ k)) w):I vp 263 #[vq vy k] w K:=by
 refine F263.sh (DV ?_);by_cases c:BT k=0
 ·simp only[zv,vl,c];have:BQ k=0:=J9 (by
   apply xF;intro hc;have:=O1 (k:=k) (by omega) (by omega);omega)
  rwa [this]at h
 ·obtain⟨k1,k5⟩:=Wu c;simp only[zv,c];refine F263.k3.to (DV ⟨_,DT _ _ 32 (BT k) c,?_⟩);rw[Pp k1 k5];exact h
def Ul{n:Int}(h:K (vq vy (Ef n)) w):I vp 120 #[vq vy n] w K:=by
 refine F120.sh (Pb ?_);unfold Ef at h;by_cases c:CC n=5
 ·rw[vn c]at h;have hn:0<=n/\n<=127:=by apply xF;intro hc;unfold CC at c;rw[vn (by omega)]at c;cases c
  simp only[zv,vl,vo,c,zQ];refine F120.k3.to ?_;simp only[AC];rw[BN (n:=n+32) (by omega)];refine⟨_,DT _ _ (n+32) 32 (by decide),?_⟩;rw[xA (by omega),BN (by omega)];exact h
 ·rw[vm c]at h;simp only[zv,vo,c,zR];exact h
def FW{a:Int}(h:K (vq vy (Ct a)) w):I vp 272 #[vq vy a] w K:=by
 refine F272.sh ?_;unfold Ct at h;by_cases h1:a<0
 ·simp only[zv,h1]
  rwa [vm (by omega)]at h
 simp only[zv,h1];by_cases h2:a≥2048
 ·simp only[zv,h2]
  rwa [vm (by omega)]at h
 simp only[zv,h2];rw[vn (by omega)]at h;refine F272.k3.to ⟨_,DT _ _ a 32 (by decide),?_⟩;rw[xA (by omega),BN (by omega)];exact h
def MP{a:Int}:Ct a<0↔¬(0<=a/\a<2048):=by
 unfold Ct;by_cases c:0<=a/\a<2048
 ·rw[vn c];omega
 ·rw[vm c];omega
def NZ{k a:Int}(h:K (vq vy (Ei k a)) w):I vp 284 #[vq vy k,vq vy a] w K:=by
 refine F284.sh (DV ?_);unfold Ei at h;by_cases c:BT k=0
 ·simp only[zv,vl,c]
  rwa [vn (.inl c)]at h
 have hs:=IL k;simp only[zv,c];refine FW ?_;by_cases d:Ct a<0
 ·simp only[zv,d]
  rwa [vn (wh d)]at h
 rw[vm (by omega)]at h;simp only[zv,d];have ha:0<=a/\a<2048:=by apply xF;intro hc;exact d (MP.2 hc)
 refine F284.k3.to (DV ⟨_,FL _ _ a (BT k) c,?_⟩);simp only[AO];rw[xB ha.1];have:=Int.emod_nonneg a c;have:=Int.emod_lt_of_pos a (show 0<BT k by omega);rw[BN (by omega)];exact h
def TZ{k a:Int}(h:K (vu #[vq vy (Gg k a).1,vw (Gg k a).2]) w):I vp 343 #[vq vy k,vq vy a] w K:=by
 refine F343.sh (NZ ?_);unfold Gg at h;by_cases c:Ei k a<0
 ·simp only[zv,c]
  rwa [vn (.inl c)]at h
 simp only[zv,c];by_cases d:Ei k a=a
 ·simp only[zv,vl,vo,d,zQ];rw[vm (by omega)]at h;have c':=c;have hk:¬(BT k=0∨Ct a<0):=λe=>by
   unfold Ei at c;rw[vn e]at c;omega
  have ha:0<=a/\a<2048:=by apply xF;intro hc;exact hk (wh (MP.2 hc))
  have hs:=IL k;refine F343.k4.to (F346.sh (FW ?_));simp only[zv,show ¬(Ct a<0) from λe=>hk (wh e)];refine F346.k3.to ⟨_,FL _ _ a 32 (by decide),?_⟩;refine DV ⟨_,DT _ _ _ (BT k) (λe=>hk (.inl e)),?_⟩;rw[xB ha.1,xA (by omega)];have h1:0<=a % 32 / BT k:=Int.ediv_nonneg (by omega) (by omega);have h2:a % 32 / BT k<=a % 32:=Int.ediv_le_self _ (by omega);rw[BN (by omega)];exact h
 ·simp only[zv,vo,d,zR]
  rwa [vn (wh d)]at h
def OX{p k i:Int}(hp:0<=p/\p<64)(hi:0<=i/\i<BQ k)(h:K (vu #[vq vy (JC p k i).1,vw v7]) w):I vp 249 #[vq vy p,vq vy k,vq vy i] w K:=by
 have hc:=Ee k;have hs:=IL k;have e:(JC p k i).1=p*32+i*BT k:=by unfold JC;rw[vn (by omega)]
 rw[e]at h;refine F249.sh ?_;simp only[zv,show ¬(p<0) by omega,show ¬(p≥64) by omega,show ¬(i<0) by omega];refine KS ?_;simp only[zv,show ¬(i≥BQ k) by omega];refine F249.k3.to ?_;simp only[AT];refine DV ?_;simp only[zv];have h1:0<=i*BT k:=n7 hi.1 hs.1;have h2:i*BT k<=16*16:=n4 (by omega) hs.2 hs.1 (by omega);rw[BN (n:=p*32) (by omega),BN (n:=i*BT k) (by omega),BN (n:=p*32+i*BT k) (by omega)];exact h
def Jn{p n:Int}(hp:0<=p/\p<64)(hn:1<=n/\n<=64-p)(h:K (vu #[vq vy (p*32),vq vy ((p+n)*32-1),vw v7]) w):I vp 177 #[vq vy p,vq vy n] w K:=by refine F177.sh ?_;simp only[zv,show ¬(p<0) by omega,show ¬(n<1) by omega,show ¬(p≥64) by omega];rw[BN (n:=64-p) (by omega)];simp only[zv,show ¬(n>64-p) by omega];refine F177.k3.to ?_;simp only[zv];rw[BN (n:=p*32) (by omega),BN (n:=p+n) (by omega),BN (n:=(p+n)*32) (by omega),BN (n:=(p+n)*32-1) (by omega)];exact h
def Uc{s n:Int}(h:∀ok,K (vu #[vq vy (Ft s n),vw ok]) w):I vp 180 #[vq vy s,vq vy n] w K:=by
 refine F180.sh ?_;unfold Ft at h;by_cases h1:s<0
 ·simp only[zv,h1];have:=h v8;rwa [vm (by omega)]at this
 simp only[zv,h1];by_cases h2:s≥1099511627776
 ·simp only[zv,h2];have:=h v8;rwa [vm (by omega)]at this
 simp only[zv,h2];by_cases h3:n<0
 ·simp only[zv,h3];have:=h v8;rwa [vm (by omega)]at this
 simp only[zv,h3];by_cases h4:n>127
 ·simp only[zv,h4];have:=h v8;rwa [vm (by omega)]at this
 simp only[zv,h4];refine F180.k3.to ?_;simp only[zv];rw[BN (n:=s*128) (by omega),BN (n:=s*128+n) (by omega)];have:=h v7;rwa [vn (by omega)]at this
def RW{a:Int}(ha : -9223372036854775808<=a/\a<=9223372036854775807)(h:∀ok,K (vu #[vq vy (Gz a).1,vq vy (Gz a).2,vw ok]) w):I vp 199 #[vq vy a] w K:=by
 refine F199.sh ?_;unfold Gz at h;by_cases h1:a<0
 ·simp only[zv,h1];have:=h v8;rwa [vm (by omega)]at this
 simp only[zv,h1];refine⟨_,DT _ _ a 128 (by decide),?_⟩;rw[xA (by omega),BN (by omega)];by_cases h2:a / 128≥1099511627776
 ·simp only[zv,h2];have:=h v8;rwa [vm (by omega)]at this
 simp only[zv,h2];refine F199.k3.to ⟨_,DT _ _ a 128 (by decide),_,FL _ _ a 128 (by decide),?_⟩;rw[xA (by omega),xB (by omega),BN (by omega)];have:=h v7;rwa [vn (by omega)]at this
end
def Ca(l:List Int):List (List wc):=l.map λn=>[vq vy n]
def Cm(l:List Int):(Ca l).length=l.length:=by simp[Ca]
def MT{l:List Int}{j:Nat}(h:j<l.length):(Ca l)[j]?=vz [vq vy l[j]]:=by simp[Ca,h]
def JU(l k:List Int):Ca (l++k)=Ca l++Ca k:=by simp[Ca]
section
variable{K:VK}{w:wd}
def Bd{v:wc}{l:List Int}{k:IntKind}{i:Nat}(h:Cq w v 1 (Ca l))(hi:i<l.length)(hk:∀g o cs e fz,w.heap[g]?=vz (wj cs e fz)->cs[o]?=vz (vq vy l[i])->K (vr (vz ⟨g,o,v6⟩)) w):
  A6 1 v (vq k (i:Int)) w K:=by refine AS h (by omega) (by rw[zE];exact MT hi) λg o cs e fz hg _ hc=>hk g o cs e fz hg ?_;have:=hc 0 (by omega);simpa using this
end
section
variable{P:we}{K:VK}{w:wd}{t ty e:TypeId}{sz bytes:Nat}{z:wc}
def Bg{W0:wd}{v src:wc}{xs ys:List (List wc)}(ht:P.underlying t=vz (.slice e))(hinfo:(P.info? e).map (λi=>(i.zero,i.size,i.bytes))=vz (vz z,sz,bytes))(hz:z.cells.size=sz)(hsz:0<sz)(hf:Fr [] W0 w)(hn:Cc W0 v)(hv:BO w v e sz xs)(hs:Cq w src sz ys)(h1:∀y∈ys,∀u∈y,u.oneCell'=v7)(hb:(xs.length+ys.length)*bytes<=140737488355328)(hm:xs.length+ys.length<=9223372036854775807)(hk:∀v' w',Fr [] W0 w'->Cc W0 v'->BO w' v' e sz (xs++ys)->Fr (BM v) w w'->(∀g∈BM v',g∈BM v∨w.heap.size<=g)->K v' w'):Am P (Builtin.append_ #[t,t] ty #[v,src]) w K:=by
 refine Bu ht hinfo hz hsz hv hs h1 hb hm λv' w' ho hf' hbk _=>?_;have hg:∀g∈BM v',g∈BM v∨w.heap.size<=g:=λg hg=>by
  rw[Cl]at hg;rcases hbk with c|⟨g',c,d⟩
  ·exact .inl (Cl.2 (by rw[<-c];exact hg))
  ·rw[hg]at c;simp only[zM]at c;exact wh (by omega)
 refine hk v' w' (hf.then hf' λx hx=>wh (hn x (Cl.1 hx))) (λg hgg=>?_) ho hf' hg;rcases hg g (Cl.2 hgg)with c|c
 ·exact hn g (Cl.1 c)
 ·have:=hf.size;omega
def Bm{W0:wd}{v xv:wc}{xs:List (List wc)}{x:List wc}(ht:P.underlying t=vz (.slice e))(hinfo:(P.info? e).map (λi=>(i.zero,i.size,i.bytes))=vz (vz z,sz,bytes))(hz:z.cells.size=sz)(hsz:0<sz)(hbs:(Instr.buildSlice t 1 #[(0,xv)]).run P w=.ok (vt (vz ⟨w.heap.size,0,v6⟩) 1 1) (w.alloc (wj x.toArray e)))(hx:x.length=sz)(hone:∀u∈x,u.oneCell'=v7)(hf:Fr [] W0 w)(hn:Cc W0 v)(hv:BO w v e sz xs)(hb:(xs.length+1)*bytes<=140737488355328)(hm:xs.length+1<=9223372036854775807)(hk:∀v' w',Fr [] W0 w'->Cc W0 v'->BO w' v' e sz (xs++[x])->Fr (BM v) w w'->(∀g∈BM v',g∈BM v∨w.heap.size<=g)->K v' w'):
  Am P (Instr.buildSlice t 1 #[(0,xv)]) w λy w1=>Am P (Builtin.append_ #[t,t] ty #[v,y]) w1 K:=by
 refine A7 hbs ?_;have hw:=Dz.mk' w (wj x.toArray e);refine Bg (ys:=[x]) ht hinfo hz hsz (hf.trans hw.fr) hn (hv.keep hw.fr (by simp)) (Cq.of_block hw.at_ rfl (by simp) (by simp) (by simpa using hx) (by simp[<-hx])) (by simpa using hone) (by simpa using hb) (by simpa using hm) λv' w' a b c d e'=>hk v' w' a b c (hw.fr.w.trans d) λg hg=>?_;rcases e' g hg with c|c
 ·exact .inl c
 ·have:=hw.fr.size;exact wh (by omega)
end
end
section
open Go.RowKit
def BO.ne{w:wd}{v v':wc}{e e':TypeId}{sz sz':Nat}{xs ys:List (List wc)}(h:BO w v e sz xs)(h':BO w v' e' sz' ys)(he:e≠e'):∀g∈BM v,g∉BM v':=by
 intro g hg hg';rw[Cl]at hg hg';obtain⟨⟨_,h3⟩,_⟩:=h;obtain⟨⟨_,h3'⟩,_⟩:=h';rcases h3 with⟨rfl,_⟩|⟨k,cap,cur,rfl,_,hh,_⟩
 ·simp[wc.ownBlock]at hg
 ·rcases h3' with⟨rfl,_⟩|⟨k',cap',cur',rfl,_,hh',_⟩
  ·simp[wc.ownBlock]at hg'
  ·simp only[wc.ownBlock,zM]at hg hg';rw[hg]at hh;rw[hg',hh]at hh';simp only[zM,Obj.cells.injEq]at hh';exact he hh'.2.1
def BO.nb{w:wd}{v:wc}{e:TypeId}{sz:Nat}{xs:List (List wc)}{g:Nat}{cs:Array wc}{e':TypeId}{fz:Nat × Nat}(h:BO w v e sz xs)(hg:w.heap[g]?=vz (wj cs e' fz))(he:e≠e'):g∉BM v:=by
 intro hg';rw[Cl]at hg';obtain⟨⟨_,h3⟩,_⟩:=h;rcases h3 with⟨rfl,_⟩|⟨k,cap,cur,rfl,_,hh,_⟩
 ·simp[wc.ownBlock]at hg'
 ·simp only[wc.ownBlock,zM]at hg';rw[hg',hg]at hh;simp only[zM,Obj.cells.injEq]at hh;exact he hh.2.1.symm
end
section
open Go.Proofs Go.RowKit
def J2{w:wd}{l:Nat}{o o':Obj}(h:w.heap[l]?=vz o'):GB w l o (w.putObj l o):=by
 have hl:=BP h;refine⟨⟨rfl,rfl,rfl,by simp[wd.putObj],λb hb hS=>?_⟩,?_,by simp[wd.putObj]⟩
 ·simp only[yZ]at hS;simp[wd.putObj,vk hS]
 ·simp[wd.putObj,hl]
theorem Rk:∀ {env:C1} {t:Nat} {v:wc},lk env t=vz v->(t,v)∈env
 | [],t,v,h=>by simp[lk]at h
 | (s,u)::env,t,v,h=>by
  simp only[lk]at h;cases hb:Nat.beq s t with
  | true=>
   rw[hb]at h;simp only[vf,zM]at h;rw[yI hb] at *;rw[h];simp
  | false=>
   rw[hb]at h;simp only[cond_false]at h;exact List.mem_cons_of_mem _ (Rk h)
def QS{tmps:Array wc}{env:C1}(h:∀x∈env,tmps[x.1]?=vz x.2):∀t v,GC env t=vz v->tmps[t]?=vz v:=λt v ht=>h (t,v) (Rk (Hk ht).2)
section
variable{K:VK}{w:wd}
def Wo(a:Int):(Instr.buildSlice 54 1 #[(0,vq vy a)]).run vp w=.ok (vt (vz ⟨w.heap.size,0,v6⟩) 1 1) (w.alloc (wj #[vq vy a] 3)):=by kernel_rfl
def MU{l:List Int}:∀y∈Ca l,∀u∈y,u.oneCell'=v7:=by intro y hy u hu;simp only[Ca,uu]at hy;obtain⟨x,_,rfl⟩:=hy;simp only[un,b8,vi]at hu;subst hu;rfl
def Bz{W0:wd}{v:wc}{l:List Int}{n:Int}(hf:Fr [] W0 w)(hn:Cc W0 v)(hv:BO w v 3 1 (Ca l))(hl:l.length<=17592186044415)(hk:∀v' w',Fr [] W0 w'->Cc W0 v'->BO w' v' 3 1 (Ca (l++[n]))->Fr (BM v) w w'->(∀g∈BM v',g∈BM v∨w.heap.size<=g)->K v' w'):
  Am vp (Instr.buildSlice 54 1 #[(0,vq vy n)]) w λx w1=>Am vp (Builtin.append_ #[54,54] 54 #[v,x]) w1 K:=
 Bm (x:=[vq vy n]) (e:=3) (sz:=1) (bytes:=8) (z:=vq vy 0) Tryz.underlying54 (by kernel_rfl) rfl (by decide) (Wo n) rfl (by simp[wc.oneCell']) hf hn hv (by rw[Cm];omega) (by rw[Cm];omega) λv' w' a b c d e=>hk v' w' a b (by rw[JU];exact c) d e
def HZ(w:wd):wd:={ w with heap := #[] }
def HO(w:wd):Fr [] (HZ w) w:=⟨rfl,rfl,rfl,by simp[HZ],λi hi=>by simp[HZ]at hi⟩
def Ho(w:wd)(v:wc):Cc (HZ w) v:=λg _=>by simp[HZ]
def B3{v:wc}{l:List Int}{n:Int}(hv:BO w v 3 1 (Ca l))(hl:l.length<=17592186044415)(hk:∀v' w',BO w' v' 3 1 (Ca (l++[n]))->Fr (BM v) w w'->(∀g∈BM v',g∈BM v∨w.heap.size<=g)->K v' w'):
  Am vp (Instr.buildSlice 54 1 #[(0,vq vy n)]) w λx w1=>Am vp (Builtin.append_ #[54,54] 54 #[v,x]) w1 K:=
 Bz (HO w) (Ho w v) hv hl λv' w' _ _ a b c=>hk v' w' a b c
end
def Ln{W0 w:wd}{v v':wc}(h:Cc W0 v)(hs:W0.heap.size<=w.heap.size)(hg:∀g∈BM v',g∈BM v∨w.heap.size<=g):Cc W0 v':=λg hx=>by
 rcases hg g (Cl.2 hx)with c|c
 ·exact h.blk g c
 ·omega
def BO.no{w:wd}{v:wc}{e:TypeId}{sz:Nat}{xs:List (List wc)}{b:Nat}{o:Obj}(h:BO w v e sz xs)(hb:w.heap[b]?=vz o)(hne:∀cs e' fz,o≠wj cs e' fz):b∉BM v:=λhg=>by
 obtain⟨⟨_,hx⟩,_⟩:=h;rcases hx with⟨e,_⟩|⟨k,cap,cur,e,_,hh,_⟩
 ·rw[e]at hg;simp[BM,wc.ownBlock]at hg
 ·rw[e]at hg;simp[BM,wc.ownBlock]at hg;subst hg;rw[hb]at hh;exact hne _ _ _ (j9 hh)
end
section
open Go.Proofs
noncomputable section
variable{K:VK}{w:wd}{x0 x1 x2 x3 y0 y1 y2 y3 y4 y5 y6 y9 y10 y20 y21:wc}
def F172.sh(h:(I vp 66 #[x0,(vq vy 0),(vq vy 2048)] w λa b=>Am vp (Instr.makeSlice 52 a a) b λc d=>Am vp (Instr.build 295 #[(0,(vw v7)),(1,c)]) d λf g=>Aw (wj (wc.cells f) 295) g λi j=>K i j)):I vp 172 #[x0] w K:=BK (A:=A0) (args:=[x0]) (qq h)
namespace F179
def ann:Cd:=⟨[(4,[3,9,10,20,21]),(6,[3,9,10,20,21]),(7,[10])],[(3,[3,9,10,20,21])],[],[],v6⟩
def code:=cd f179
def BL:=tp f179
variable(K:VK)(y3 y9 y10 y20 y21:wc)(w:wd)
def k7:=nk ann 30 [(10,y10)] w [1,1,1] code (BL K)
def l3:=nl ann 30 [(3,y3),(9,y9),(10,y10),(20,y20),(21,y21)] w [1,1,0,1,0] code (BL K)
def k4:=nk ann 30 [(3,y3),(9,y9),(10,y10),(20,y20),(21,y21)] w [1,1,0,1,0,0,1,1] code (BL K)
def k6:=nk ann 30 [(3,y3),(9,y9),(10,y10),(20,y20),(21,y21)] w [1,1,0,1,0,0,1,1,1] code (BL K)
attribute [irreducible] k7 l3 k4 k6
end F179
def F179.k7.to(h:(K y10 w)):F179.k7 K y10 w:=qq h
def F179.l3.to(h:(U .lss y21 y20 w λa b=>Af a (F179.k4 K y3 y9 y10 y20 y21 b) (F179.k7 K y10 b))):F179.l3 K y3 y9 y10 y20 y21 w:=by unfold F179.l3 nl;exact BW (qq h)
def F179.k4.to(h:(A6 1 y9 y21 w λa b=>Aj 1 a y3 b λc=>F179.k6 K y3 y9 y10 y20 y21 c)):F179.k4 K y3 y9 y10 y20 y21 w:=qq h
def F179.k6.to(h:(U .add y21 (vq vy 1) w λa b=>F179.l3 K y3 y9 y10 y20 a b)):F179.k6 K y3 y9 y10 y20 y21 w:=qq h
def F179.sh(h:(I vp 245 #[x0,x1,x2] w λa b=>Av 0 a b λc d=>Av 1 a d λf g=>AH c g λi j=>F179.l3 K x3 c f i (vq vy 0) j)):I vp 179 #[x0,x1,x2,x3] w K:=BK (A:=F179.ann) (args:=[x0,x1,x2,x3]) (qq h)
namespace F245
def ann:=a1 [(3,[0,1,2])]
def code:=cd f245
def BL:=tp f245
variable(K:VK)(y0 y1 y2:wc)(w:wd)
@[irreducible]def k3:=nk ann 57 [(0,y0),(1,y1),(2,y2)] w [1,1] code (BL K)
end F245
def F245.k3.to(h:(Ag y0 w λa b=>Ab 1 a b λc d=>Ad c d λf g=>U .add y1 y2 g λi j=>U .add y1 y2 j λk m=>Am vp (Instr.sliceAt 52 f (vz y1) (vz i) (vz k)) m λo p=>K (vu #[o,(vw v7)]) p)):F245.k3 K y0 y1 y2 w:=qq h
def F245.sh(h:(AG vp .eql 238 (.tmp 8) (.const (vr v6)) x0 (vr v6) w λa b=>Aa v8 a (λK=>K x0 b) b λc d=>Aa v8 a (Ag c d) d λf g=>Aa v8 a (Ab 0 f g) g λi j=>Aa v8 a (Ad i j) j λk m=>Aa v8 a (AE k m) m λo p=>Ar (vz a) (vz (vw v7)) (vz o) p λq r=>Aa v8 q (λK=>K x1 r) r λs t=>Aa v8 q (U .lss s (vq vy 0) t) t λu v=>Ar (vz q) (vz (vw v7)) (vz u) v λx y=>Aa v8 x (λK=>K x2 y) y λz aa=>Aa v8 x (U .lss z (vq vy 0) aa) aa λab ac=>Ar (vz x) (vz (vw v7)) (vz ab) ac λad ae=>Aa v8 ad (λK=>K x1 ae) ae λaf ag=>Aa v8 ad (λK=>K x0 ag) ag λah ai=>Aa v8 ad (Ag ah ai) ai λaj ak=>Aa v8 ad (Ab 1 aj ak) ak λal am=>Aa v8 ad (Ad al am) am λan ao=>Aa v8 ad (AH an ao) ao λap aq=>Aa v8 ad (U .gtr af ap aq) aq λar au=>Ar (vz ad) (vz (vw v7)) (vz ar) au λav aw=>Aa v8 av (λK=>K x2 aw) aw λax ay=>Aa v8 av (λK=>K x0 ay) ay λaz ba=>Aa v8 av (Ag az ba) ba λbb bc=>Aa v8 av (Ab 1 bb bc) bc λbd be=>
 Aa v8 av (Ad bd be) be λbf bg=>Aa v8 av (AH bf bg) bg λbh bi=>Aa v8 av (λK=>K x1 bi) bi λbj bk=>Aa v8 av (U .sub bh bj bk) bk λbl bm=>Aa v8 av (U .gtr ax bl bm) bm λbn bo=>Ar (vz av) (vz (vw v7)) (vz bn) bo λbp bq=>Af bp (K (vu #[(vt v6 0 0),(vw v8)]) bq) (F245.k3 K x0 x1 x2 bq))):I vp 245 #[x0,x1,x2] w K:=BK (A:=F245.ann) (args:=[x0,x1,x2]) (qq h)
def F247.sh(h:(I vp 179 #[x0,x1,(vq vy 1),x2] w λa b=>K a b)):I vp 247 #[x0,x1,x2] w K:=BK (A:=A0) (args:=[x0,x1,x2]) (qq h)
namespace F257
def ann:=a1 [(4,[6])]
def code:=cd f257
def BL:=tp f257
variable(K:VK)(y6:wc)(w:wd)
@[irreducible]def k4:=nk ann 19 [(6,y6)] w [1,1,1] code (BL K)
end F257
def F257.k4.to(h:(A6 1 y6 (vq vy 0) w λa b=>Ad a b λc d=>K (vu #[c,(vw v7)]) d)):F257.k4 K y6 w:=qq h
def F257.sh(h:(I vp 245 #[x0,x1,(vq vy 1)] w λa b=>Av 0 a b λc d=>Av 1 a d λf g=>AE f g λi j=>Af i (K (vu #[(vq vy 0),(vw v8)]) j) (F257.k4 K c j))):I vp 257 #[x0,x1] w K:=BK (A:=F257.ann) (args:=[x0,x1]) (qq h)
namespace F308
def ann:=a1 [(3,[0])]
def code:=cd f308
def BL:=tp f308
variable(K:VK)(y0:wc)(w:wd)
@[irreducible]def k3:=nk ann 10 [(0,y0)] w [1,1] code (BL K)
end F308
def F308.k3.to(h:(Ag y0 w λa b=>Ab 1 a b λc d=>Ad c d λf g=>AH f g λi j=>K i j)):F308.k3 K y0 w:=qq h
def F308.sh(h:(AG vp .eql 238 (.tmp 3) (.const (vr v6)) x0 (vr v6) w λa b=>Af a (K (vq vy 0) b) (F308.k3 K x0 b))):I vp 308 #[x0] w K:=BK (A:=F308.ann) (args:=[x0]) (qq h)
def F116.sh(h:(I vp 66 #[x0,(vq vy 0),(vq vy 2048)] w λa b=>Am vp (Instr.build 255 #[(0,(vw v7)),(1,a)]) b λc d=>Aw (wj (wc.cells c) 255) d λf g=>K f g)):I vp 116 #[x0] w K:=BK (A:=A0) (args:=[x0]) (qq h)
namespace F178
def ann:Cd:=⟨[(3,[0,1])],[],[],[(3,(tk [0,1,3,4,7,11,12,2,5,8,9] (.go 6 (tk [10,13] (.go 14 .fin .fin)) .fin)))],v6⟩
def code:=cd f178
def BL:=tp f178
variable(K:VK)(y0 y1:wc)(w:wd)
@[irreducible]def k3:=nk ann 28 [(0,y0),(1,y1)] w [1,1] code (BL K)
end F178
def F178.k3.to(h:(A4 w λS a=>Ag y0 a λb c=>Ab 2 b c λd f=>Ag y0 f λg i=>Ab 2 g i λj k=>∃m,(∀w',S w'->((do eqGuard .quo 3 (.tmp 15) (.const (vq vy 64)) y1 (vq vy 64);binOp .quo 3 y1 (vq vy 64):Sem wc)).run vp w'=.ok m w')/\(AP 32 1 d m k λo p=>∃q,(∀w',S w'->((do eqGuard .rem 3 (.tmp 21) (.const (vq vy 64)) y1 (vq vy 64);binOp .rem 3 y1 (vq vy 64):Sem wc)).run vp w'=.ok q w')/\(∃r,(∀w',S w'->((do eqGuard .shl 210 (.const (vq .u64 1)) (.tmp 22) (vq .u64 1) q;binOp .shl 210 (vq .u64 1) q:Sem wc)).run vp w'=.ok r w')/\((Ad o p λs t=>(S t/\
 ∃u,(∀w',S w'->((do eqGuard .or 210 (.tmp 20) (.tmp 23) s r;binOp .or 210 s r:Sem wc)).run vp w'=.ok u w')/\(AP 32 1 j m t λv x=>(Aj 1 v u x λy=>(S y/\
 K (vw v7) y))/\True)))/\True))))):F178.k3 K y0 y1 w:=qq h
def F178.sh(h:(I vp 243 #[x0,x1] w λa b=>AE a b λc d=>Aa v8 c (λK=>K x0 d) d λf g=>Aa v8 c (λK=>K x1 g) g λi j=>Aa v8 c (λK=>I vp 244 #[f,i] j K) j λk m=>Ar (vz c) (vz (vw v7)) (vz k) m λo p=>Af o (K (vw v8) p) (F178.k3 K x0 x1 p))):I vp 178 #[x0,x1] w K:=BK (A:=F178.ann) (args:=[x0,x1]) (qq h)
namespace F202
def ann:Cd:=⟨[(4,[0,3,4]),(5,[0,3,4]),(6,[3])],[(3,[0,3,4])],[],[],v6⟩
def code:=cd f202
def BL:=tp f202
variable(K:VK)(y0 y3 y4:wc)(w:wd)
def k6:=nk ann 18 [(3,y3)] w [1,1,1] code (BL K)
def l3:=nl ann 18 [(0,y0),(3,y3),(4,y4)] w [1,1,0,1,0] code (BL K)
def k5:=nk ann 18 [(0,y0),(3,y3),(4,y4)] w [1,1,0,1,0,0,1] code (BL K)
def k4:=nk ann 18 [(0,y0),(3,y3),(4,y4)] w [1,1,0,1,0,0,1,1] code (BL K)
attribute [irreducible] k6 l3 k5 k4
end F202
def F202.k6.to(h:(K y3 w)):F202.k6 K y3 w:=qq h
def F202.l3.to(h:(U .geq y4 (vq vy 0) w λa b=>Af a (F202.k5 K y0 y3 y4 b) (F202.k6 K y3 b))):F202.l3 K y0 y3 y4 w:=by unfold F202.l3 nl;exact BW (qq h)
def F202.k5.to(h:(Am vp (Instr.buildSlice 54 1 #[(0,y4)]) w λa b=>Am vp (Builtin.append_ #[54,54] 54 #[y3,a]) b λc d=>F202.k4 K y0 c y4 d)):F202.k5 K y0 y3 y4 w:=qq h
def F202.k4.to(h:(U .add y4 (vq vy 1) w λa b=>I vp 258 #[y0,a] b λc d=>F202.l3 K y0 y3 c d)):F202.k4 K y0 y3 y4 w:=qq h
def F202.sh(h:(I vp 258 #[x0,(vq vy 0)] w λa b=>F202.l3 K x0 (vt v6 0 0) a b)):I vp 202 #[x0] w K:=BK (A:=F202.ann) (args:=[x0]) (qq h)
def F243.sh(h:(AG vp .neq 177 (.tmp 5) (.const (vr v6)) x0 (vr v6) w λa b=>Aa v7 a (λK=>K x0 b) b λc d=>Aa v7 a (Ag c d) d λf g=>Aa v7 a (Ab 0 f g) g λi j=>Aa v7 a (Ad i j) j λk m=>Ar (vz a) (vz k) (vz (vw v8)) m λo p=>Aa v7 o (λK=>K x1 p) p λq r=>Aa v7 o (U .geq q (vq vy 0) r) r λs t=>Ar (vz o) (vz s) (vz (vw v8)) t λu v=>Aa v7 u (λK=>K x1 v) v λx y=>Aa v7 u (λK=>K x0 y) y λz aa=>Aa v7 u (Ag z aa) aa λab ac=>Aa v7 u (Ab 1 ab ac) ac λad ae=>Aa v7 u (Ad ad ae) ae λaf ag=>Aa v7 u (U .lss x af ag) ag λah ai=>Ar (vz u) (vz ah) (vz (vw v8)) ai λaj ak=>K aj ak)):I vp 243 #[x0,x1] w K:=BK (A:=A0) (args:=[x0,x1]) (qq h)
def F244.sh(h:(I vp 243 #[x0,x1] w λa b=>Aa v7 a (λK=>K x0 b) b λc d=>Aa v7 a (λK=>K x1 d) d λf g=>Aa v7 a (λK=>AG vp .quo 3 (.tmp 10) (.const (vq vy 64)) f (vq vy 64) g K) g λi j=>Aa v7 a (Ag c j) j λk m=>Aa v7 a (Ab 2 k m) m λo p=>Aa v7 a (AP 32 1 o i p) p λq r=>Aa v7 a (Ad q r) r λs t=>Aa v7 a (λK=>K x1 t) t λu v=>Aa v7 a (λK=>AG vp .rem 3 (.tmp 16) (.const (vq vy 64)) u (vq vy 64) v K) v λx y=>Aa v7 a (AG vp .shr 210 (.tmp 15) (.tmp 17) s x y) y λz aa=>Aa v7 a (λK=>AG vp .and 210 (.tmp 18) (.const (vq .u64 1)) z (vq .u64 1) aa K) aa λab ac=>Aa v7 a (U .eql ab (vq .u64 1) ac) ac λad ae=>Ar (vz a) (vz ad) (vz (vw v8)) ae λaf ag=>K af ag)):I vp 244 #[x0,x1] w K:=BK (A:=A0) (args:=[x0,x1]) (qq h)
namespace F258
def ann:Cd:=⟨[(3,[0,1]),(6,[0,5,6]),(9,[0,6]),(11,[0,6])],[(7,[0,5,6])],[],[],v6⟩
def code:=cd f258
def BL:=tp f258
variable(K:VK)(y0 y1 y5 y6:wc)(w:wd)
def k3:=nk ann 60 [(0,y0),(1,y1)] w [1,1] code (BL K)
def l7:=nl ann 60 [(0,y0),(5,y5),(6,y6)] w [1,1,1,1,1,0] code (BL K)
def k6:=nk ann 60 [(0,y0),(5,y5),(6,y6)] w [1,1,1,1,1,0,0,1] code (BL K)
def k9:=nk ann 60 [(0,y0),(6,y6)] w [1,1,1,1,1,0,0,0,0,1] code (BL K)
def k11:=nk ann 60 [(0,y0),(6,y6)] w [1,1,1,1,1,0,0,0,0,1,1] code (BL K)
attribute [irreducible] k3 l7 k6 k9 k11
end F258
def F258.k3.to(h:(Am vp (Builtin.max_ #[3,3] 3 #[y1,(vq vy 0)]) w λa b=>AG vp .quo 3 (.tmp 27) (.const (vq vy 64)) a (vq vy 64) b λc d=>Ag y0 d λf g=>Ab 2 f g λi j=>AP 32 1 i c j λk m=>Ad k m λo p=>AG vp .rem 3 (.tmp 33) (.const (vq vy 64)) a (vq vy 64) p λq r=>AG vp .shr 210 (.tmp 32) (.tmp 34) o q r λs t=>AG vp .rem 3 (.tmp 36) (.const (vq vy 64)) a (vq vy 64) t λu v=>AG vp .shl 210 (.tmp 35) (.tmp 37) s u v λx y=>AG vp .quo 3 (.tmp 39) (.const (vq vy 64)) a (vq vy 64) y λz aa=>F258.l7 K y0 x z aa)):F258.k3 K y0 y1 w:=qq h
def F258.l7.to(h:(U .neq y5 (vq .u64 0) w λa b=>Af a (U .mul y6 (vq vy 64) b λc d=>I vp 291 #[y5] d λf g=>U .add c f g λi j=>K i j) (F258.k9 K y0 y6 b))):F258.l7 K y0 y5 y6 w:=by unfold F258.l7 nl;exact BW (qq h)
def F258.k6.to(h:(U .add y6 (vq vy 1) w λa b=>F258.l7 K y0 y5 a b)):F258.k6 K y0 y5 y6 w:=qq h
def F258.k9.to(h:(U .add y6 (vq vy 1) w λa b=>U .eql a (vq vy 32) b λc d=>Af c (K (vq vy (-1)) d) (F258.k11 K y0 y6 d))):F258.k9 K y0 y6 w:=qq h
def F258.k11.to(h:(U .add y6 (vq vy 1) w λa b=>Ag y0 b λc d=>Ab 2 c d λf g=>AP 32 1 f a g λi j=>Ad i j λk m=>F258.k6 K y0 k y6 m)):F258.k11 K y0 y6 w:=qq h
def F258.sh(h:(AG vp .eql 177 (.tmp 7) (.const (vr v6)) x0 (vr v6) w λa b=>Aa v8 a (λK=>K x0 b) b λc d=>Aa v8 a (Ag c d) d λf g=>Aa v8 a (Ab 0 f g) g λi j=>Aa v8 a (Ad i j) j λk m=>Aa v8 a (AE k m) m λo p=>Ar (vz a) (vz (vw v7)) (vz o) p λq r=>Aa v8 q (λK=>K x1 r) r λs t=>Aa v8 q (λK=>K x0 t) t λu v=>Aa v8 q (Ag u v) v λx y=>Aa v8 q (Ab 1 x y) y λz aa=>Aa v8 q (Ad z aa) aa λab ac=>Aa v8 q (U .geq s ab ac) ac λad ae=>Ar (vz q) (vz (vw v7)) (vz ad) ae λaf ag=>Af af (K (vq vy (-1)) ag) (F258.k3 K x0 x1 ag))):I vp 258 #[x0,x1] w K:=BK (A:=F258.ann) (args:=[x0,x1]) (qq h)
namespace F337
def ann:Cd:=⟨[(3,[0,1])],[],[],[(3,(tk [0,1,3,4,7,11,12,2,5,8,9] (.go 6 (tk [10,13] (.go 14 .fin .fin)) .fin)))],v6⟩
def code:=cd f337
def BL:=tp f337
variable(K:VK)(y0 y1:wc)(w:wd)
@[irreducible]def k3:=nk ann 23 [(0,y0),(1,y1)] w [1,1] code (BL K)
end F337
def F337.k3.to(h:(A4 w λS a=>Ag y0 a λb c=>Ab 2 b c λd f=>Ag y0 f λg i=>Ab 2 g i λj k=>∃m,(∀w',S w'->((do eqGuard .quo 3 (.tmp 10) (.const (vq vy 64)) y1 (vq vy 64);binOp .quo 3 y1 (vq vy 64):Sem wc)).run vp w'=.ok m w')/\(AP 32 1 d m k λo p=>∃q,(∀w',S w'->((do eqGuard .rem 3 (.tmp 16) (.const (vq vy 64)) y1 (vq vy 64);binOp .rem 3 y1 (vq vy 64):Sem wc)).run vp w'=.ok q w')/\(∃r,(∀w',S w'->((do eqGuard .shl 210 (.const (vq .u64 1)) (.tmp 17) (vq .u64 1) q;binOp .shl 210 (vq .u64 1) q:Sem wc)).run vp w'=.ok r w')/\((Ad o p λs t=>(S t/\
 ∃u,(∀w',S w'->((do eqGuard .andNot 210 (.tmp 15) (.tmp 18) s r;binOp .andNot 210 s r:Sem wc)).run vp w'=.ok u w')/\(AP 32 1 j m t λv x=>(Aj 1 v u x λy=>(S y/\
 K (vw v7) y))/\True)))/\True))))):F337.k3 K y0 y1 w:=qq h
def F337.sh(h:(I vp 244 #[x0,x1] w λa b=>AE a b λc d=>Af c (K (vw v8) d) (F337.k3 K x0 x1 d))):I vp 337 #[x0,x1] w K:=BK (A:=F337.ann) (args:=[x0,x1]) (qq h)
end
end
section
open Go.Proofs Go.RowKit
structure Cf where
 pages:Int
 threads:Int
 window:Int
 quantum:Int
 target:Int
 cap:Int
 tax:Int
 chunk:Int
 stack:Int
 trigger:Int
structure St where
 c:Ce
 own:Om
 made:Int
def St.begin(s:St)(a n:Int):St:={ s with c:=(s.c.store a (Ft s.made n)).1,made:=CJ (s.made+1) }
def St.fast(s:St)(t n:Int):St × Option Int:=if BT (CC n)=0 then (s,v6) else
 match s.c.take (EQ s.own (t,CC n)) with
 | (_,v6)=>(s,v6)
 | (c,vz a)=>(({ s with c:=c }:St).begin a n,vz a)
def Lo(nt:Int)(f:Om)(t k p:Int):Prop:=0<=t/\t<nt/\BT k≠0/\0<=p/\p<64/\(Dn f p).1<0
instance (nt:Int) (f:Om) (t k p:Int):Decidable (Lo nt f t k p):=by unfold Lo;infer_instance
def St.openAt(s:St)(k:Int):Nat->Nat->Option Nat
 | 0,_=>v6
 | d+1,p=>if (Dn s.own p).1<0/\BS s.c.ks p=k/\0<s.c.left p then vz p else St.openAt s k d (p+1)
def St.openP(np:Nat)(s:St)(k:Int):St × Option Int:=match s.openAt k np 0 with
 | some p=>(s,some p)
 | none=>({ s with c:=(s.c.carve k).1 },(s.c.carve k).2.map λp=>(p:Int))
def St.slow(np:Nat)(nt:Int)(s:St)(t n:Int):St × Int × Int:=
 let k:=CC n
 if k=0∨t<0∨nt<=t then (s,0,4) else
 if k=5 then (match s.c.large (Ef n) with
  | (_,v6)=>(s,0,10)
  | (c,vz a)=>(({ s with c:=c }:St).begin a n,a,0)) else
 match s.fast t n with
 | (s',vz a)=>(s',a,0)
 | (_,v6)=>match s.openP np k with
  | (_,v6)=>(s,0,10)
  | (s',vz p)=>
   let s2:St:=if Lo nt s'.own t k p then { s' with own:=Kb s'.own (t,k) p } else s'
   ((s2.fast t n).1,((s2.fast t n).2.getD 0),0)
def St.read(s:St)(a:Int):Int × Int:=if s.c.isIt a then Gz (Cs s.c.m a) else (-1, -1)
def St.fields(s:St)(a:Int):Int:=(s.read a).2
def St.serial(s:St)(a:Int):Int:=(s.read a).1
def St.get(s:St)(a i:Int):V2 × Bool:=if 0<=i/\i<s.fields a then GS (Cs s.c.m (CJ (CJ (a+1)+i))) else ((0,0),v8)
def St.set(s:St)(a i:Int)(v:V2):St × Bool:=if Dk v/\0<=i/\i<s.fields a then ({ s with c:=(s.c.store (CJ (CJ (a+1)+i)) (E7 v)).1 },(s.c.store (CJ (CJ (a+1)+i)) (E7 v)).2) else (s,v8)
def St.objects(s:St):List Int:=HY s.c.n s.c.tk
def St.inP(s:St)(p:Int):List Int:=s.objects.filter λa=>decide (Ct a=p)
def St.dropAll(s:St):List Int->St
 | []=>s
 | p::ps=>St.dropAll { s with c:=(s.c.drop p).1 } ps
def St.quit(s:St)(t:Int):St:=St.dropAll { s with own:=Iq s.own t } ((Ff s.own t).mergeSort λx y=>decide (x<=y))
def St.trim(s:St)(p:Int):St:=if (Dn s.own p).1<0 then { s with c:=(s.c.drop p).1 } else s
structure Gy where
 l:List (Int × Int)
 over:Bool
 mks:Bs
def Gy.push(room:Int)(g:Gy)(e:Int × Int):Gy:=if (g.l.length:Int)=room then { g with over:=v7 } else { g with l:=g.l++[e] }
def Gy.is(g:Gy)(a:Int):Bool:=EY 2048 g.mks a
def Gy.black(g:Gy)(a:Int):Gy:=if 0<=a/\a<2048 then { g with mks:=CG g.mks a.toNat v7 } else g
def Gy.shade(room:Int)(g:Gy)(a:Int):Gy:=if 0<=a/\a<2048/\¬g.is a then (g.black a).push room (a,0) else g
def Gy.shadeAll(room:Int)(g:Gy):List Int->Gy
 | []=>g
 | a::l=>Gy.shadeAll room (g.shade room a) l
def Gy.clear(g:Gy)(a:Int):Gy:=if g.is a then { g with mks:=CG g.mks a.toNat v8 } else g
structure Rg where
 ep:Int
 l:List (Bool × Int)
def Rg.live(r:Rg)(t:Int):Bool:=decide (0<=t) && decide (t<r.l.length) && (r.l.getD t.toNat (v8,0)).1
def Rg.ofT(r:Rg)(t:Int):Int:=if r.live t then (r.l.getD t.toNat (v8,0)).2 else -1
def Rg.agreed(r:Rg):Bool:=r.l.all λm => !(m.1 && decide (m.2<r.ep))
def Rg.attach(r:Rg)(t:Int):Rg × Bool:=if 0<=t/\t<r.l.length/\¬r.live t then ({ r with l:=r.l.set t.toNat (v7,r.ep) },v7) else (r,v8)
def Rg.detach(r:Rg)(t:Int):Rg:=if r.live t then { r with l:=r.l.set t.toNat (v8,0) } else r
def Rg.confirm(r:Rg)(t:Int):Rg × Bool:=if r.live t/\r.ofT t<r.ep then ({ r with l:=r.l.set t.toNat (v7,r.ep) },v7) else (r,v8)
def Rg.raise(r:Rg):Rg:={ r with ep:=CJ (r.ep+1) }
def E0(b:List (List Int))(t:Int):List Int:=if 0<=t then b.getD t.toNat [] else[]
def FB(b:List (List Int))(t a:Int):List (List Int):=if 0<=t/\t<b.length/\0<=Ct a/\a∉E0 b t then b.set t.toNat (E0 b t++[a]) else b
def DE(b:List (List Int))(t:Int):List (List Int):=if 0<=t/\t<b.length then b.set t.toNat [] else b
def F1(b:List (List Int)):Bool:=b.all λl=>l.isEmpty
structure Co where
 s:St
 g:Gy
 r:Rg
 b:List (List Int)
 tp:Int
 at_:Int
 freed:Int
 th:List (List V2)
 global:Int
 phase:Int
 cycles:Int
 units:Int
section
variable(cf:Cf)
def Fa(s:St)(a:Int):Nat->Int->Gy->Gy
 | 0,_,g=>g
 | d+1,i,g=>Fa s a d (i+1) (if (s.get a i).1.1=2 then g.shade cf.stack (s.get a i).1.2 else g)
def DF(s:St):List Int->Gy->Gy
 | [],g=>g
 | a::l,g=>DF s l (if g.is a then Fa cf s a (s.fields a).toNat 0 g else g)
def Co.look(c:Co):Co:={ c with g:=DF cf c.s (c.s.inP c.tp) c.g,tp:=if CJ (c.tp+1)=cf.pages then -1 else CJ (c.tp+1) }
def Co.entry(c:Co)(e:Int × Int):Co:=
 let n:=c.s.fields e.1
 if e.2<0∨n<=e.2 then c else
 let to:=min (CJ (e.2+cf.chunk)) n
 let g:=if to<n then c.g.push cf.stack (e.1,to) else c.g
 { c with g:=Fa cf c.s e.1 (to-e.2).toNat e.2 g }
def Co.tIdle(c:Co):Bool:=c.g.l.isEmpty && decide (c.tp = -1) && !c.g.over
def Co.tUnit(c:Co):Co × Bool:=if c.tIdle then (c,v8) else
 match c.g.l.getLast? with
 | some e=>(({ c with g:={ c.g with l:=c.g.l.dropLast } }:Co).entry cf e,v7)
 | none=>(if c.tp = -1 then ({ c with g:={ c.g with over:=v8 },tp:=0 }:Co).look cf else c.look cf,v7)
def Co.sweepOne(c:Co)(a:Int):Co:=if c.g.is a then { c with g:=c.g.clear a } else { c with s:={ c.s with c:=(c.s.c.give a).1 },freed:=if (c.s.c.give a).2 then CJ (c.freed+1) else c.freed }
def Co.sweepAll(c:Co):List Int->Co
 | []=>c
 | a::l=>Co.sweepAll (c.sweepOne a) l
def Co.wUnit(c:Co):Co × Bool:=if cf.pages<=c.at_ then (c,v8) else
 let d:=c.sweepAll (c.s.inP c.at_)
 ({ d with s:=d.s.trim d.at_,at_:=CJ (d.at_+1) },v7)
def Co.raise(c:Co)(p:Int):Co:={ c with phase:=p,r:=c.r.raise }
def Co.advance:Nat->Co->Co
 | 0,c=>c
 | d+1,c=>if c.r.agreed then
   if c.phase=1 then Co.advance d (({ c with b:=c.b.map λ_=>[],g:=c.g.shade cf.stack c.global }:Co).raise 2)
   else if c.phase=2 then Co.advance d { c with phase:=3 }
   else if c.phase=4/\F1 c.b/\c.tIdle then Co.advance d { c with phase:=5,at_:=0,freed:=0 }
   else if c.phase=4 then Co.advance d { c with phase:=3 }
   else c
  else c
def Co.adv(c:Co):Co:=Co.advance cf 4 c
def Co.beginC(c:Co):Co × Bool:=if c.phase=0 then ((({ c with units:=0 }:Co).raise 1).adv cf,v7) else (c,v8)
def Co.marking(c:Co):Bool:=decide (2<=c.phase) && decide (c.phase<=4)
def Co.attach(c:Co)(t:Int):Co:={ c with r:=(c.r.attach t).1 }
def Co.detach(c:Co)(t:Int):Co:=if c.r.live t then
  let g:=if c.marking then c.g.shadeAll cf.stack (E0 c.b t) else c.g
  ({ c with b:=DE c.b t,g:=g,th:=c.th.set t.toNat [],s:=c.s.quit t,r:=c.r.detach t }:Co).adv cf
 else c
def DC(l:List V2):List Int:=l.foldl (λout v=>if v.1=2/\v.2∉out then out++[v.2] else out) []
def Co.poll(c:Co)(t:Int):Co:=if (c.r.confirm t).2 then
  let c1:Co:={ c with r:=(c.r.confirm t).1 }
  let c2:Co:=if c.phase=2 then { c1 with g:=c1.g.shadeAll cf.stack (DC (c.th.getD t.toNat [])) }
   else if c.phase=4 then { c1 with g:=c1.g.shadeAll cf.stack (E0 c.b t),b:=DE c.b t } else c1
  c2.adv cf
 else c
def Co.unit(c:Co):Co × Bool:=
 let r:Co × Bool:=if c.phase=3 then (match c.tUnit cf with
   | (d,v7)=>(d,v7)
   | (d,v8)=>((d.raise 4).adv cf,v8))
  else if c.phase=5 then (match c.wUnit cf with
   | (d,did)=>(if cf.pages<=d.at_ then { d with phase:=0,cycles:=CJ (d.cycles+1) } else d,did))
  else (c,v8)
 (if r.2 then { r.1 with units:=CJ (r.1.units+1) } else r.1,r.2)
def Co.may(c:Co)(v:V2):Bool:=Dk v && (!decide (v.1=2) || decide (0<=c.s.fields v.2))
def Co.push(c:Co)(t:Int)(v:V2):Co × Bool:=if c.r.live t/\c.may v/\(c.th.getD t.toNat []).length<16 then ({ c with th:=c.th.set t.toNat (c.th.getD t.toNat []++[v]) },v7) else (c,v8)
def Co.pop(c:Co)(t:Int):Co × Option V2:=if c.r.live t then (match (c.th.getD t.toNat []).getLast? with
  | some v=>({ c with th:=c.th.set t.toNat (c.th.getD t.toNat []).dropLast },some v)
  | none=>(c,none)) else (c,none)
def Co.roots(c:Co)(t:Int):List V2:=if c.r.live t then c.th.getD t.toNat [] else[]
def Co.color(c:Co)(a:Int):Co:=if c.phase=2 then { c with g:=c.g.shade cf.stack a } else if c.phase=3∨c.phase=4∨(c.phase=5/\c.at_<=Ct a) then { c with g:=c.g.black a } else c
def Co.fast(c:Co)(t n:Int):Co × Option Int:=if c.r.live t then (match c.s.fast t n with
  | (_,v6)=>(c,v6)
  | (s,vz a)=>(({ c with s:=s }:Co).color cf a,vz a)) else (c,v6)
def Co.slow(c:Co)(t n:Int):Co × Int × Int:=if c.r.live t then (match c.s.slow cf.pages.toNat (cf.threads+1) t n with
  | (s,a,e)=>(if e=0 then ({ c with s:=s }:Co).color cf a else { c with s:=s },a,e)) else (c,0,4)
def Co.barrier(c:Co)(t:Int):Bool:=c.marking || (decide (c.phase=1) && decide (c.r.ofT t=c.r.ep))
def Co.write(c:Co)(t a i:Int)(v:V2):Co × Bool:=if c.r.live t/\c.may v/\(c.s.get a i).2 then
  let o:=(c.s.get a i).1
  let b:=if o.1=2/\¬c.g.is o.2/\c.barrier t then FB c.b t o.2 else c.b
  ({ c with b:=b,s:=(c.s.set a i v).1 },(c.s.set a i v).2)
 else (c,v8)
end
def upd{α : Type}(f:Nat -> α)(t:Nat)(x : α):Nat -> α := λu=>if u=t then x else f u
def Hb(l:List Bool):Nat:=l.count v7
def FR(k:Nat)(l:List Bool):List Bool:=l.drop (l.length-k)
def ES(win most n:Int)(l:List Bool):Bool:=decide (0<=n/\n<=most/\(Hb (l.drop ((l.length:Int)+n-win).toNat):Int)+n<=most)
structure BY where
 kd:Int
 t:Int
 i:Int
 f:Int
 j:Int
 cost:Int
 n:Int
deriving DecidableEq
structure BZ where
 code:Int
 kd:Int
 n:Int
 done:Int
 credit:Int
deriving DecidableEq
def BZ.ok:BZ:=⟨0,0,0,0,0⟩
def BZ.err(e:Int):BZ:=⟨e,0,0,0,0⟩
structure Ma where
 co:Co
 lg:Nat->List Bool
 bi:Int
 bo:Int
 bl:Int
def Cn(k:Int):List Bool:=
 if k=1∨k=2∨k=5∨k=6∨k=8∨k=14 then[v7,v8,v8,v8,v8,v8] else
 if k=3∨k=15 then[v7,v8,v8,v8,v7,v7] else
 if k=4∨k=13 then[v7,v8,v8,v8,v8,v7] else
 if k=7∨k=12 then[v7,v7,v8,v8,v8,v8] else
 if k=9 then[v7,v7,v7,v8,v8,v8] else
 if k=10 then[v7,v7,v7,v7,v8,v8] else
 if k=11 then[v7,v7,v8,v7,v8,v8] else
 if k=16 then[v8,v8,v8,v8,v8,v7] else[v8,v8,v8,v8,v8,v8]
def BY.small(x:BY):List Int:=[x.t,x.i,x.f,x.j,x.cost]
def BY.check(x:BY):Int:=
 if x.kd<1∨17<x.kd then 12 else
 if x.small.any (λn=>decide (n<0) || decide (255<n)) then 4 else
 if (x.small.zip (Cn x.kd)).any (λy=>decide (y.1≠0) && !y.2) then 16 else
 if x.n≠0/\(Cn x.kd).getD 5 v8=v8 then 16 else 0
section
variable(cf:Cf)
def Cf.most:Int:=(cf.window*(1000-cf.target)).tdiv 1000
def Ma.ownT(m:Ma)(t n:Int):Ma:={ m with lg:=upd m.lg t.toNat (FR cf.window.toNat (m.lg t.toNat++List.replicate (min n cf.window).toNat v8)) }
def Ma.admt(m:Ma)(t n:Int):Bool:=ES cf.window cf.most n (m.lg t.toNat)
def Ma.charge(m:Ma)(t n:Int):Ma:=if m.admt cf t n then { m with lg:=upd m.lg t.toNat (FR cf.window.toNat (m.lg t.toNat++List.replicate (min n cf.window).toNat v7)) } else m
def Co.workN:Nat->Co->Co × Nat
 | 0,c=>(c,0)
 | d+1,c=>match c.unit cf with
  | (c',v8)=>(c',0)
  | (c',v7)=>((Co.workN d c').1,(Co.workN d c').2+1)
def Ma.put(m:Ma)(n:Int):Ma:=let kept:=min n (cf.cap-(m.bi-m.bo)); { m with bi:=m.bi+kept,bl:=m.bl+(n-kept) }
def Ma.ahead(m:Ma)(n:Int):Ma × BZ:=let r:=m.co.workN cf n.toNat; (({ m with co:=r.1 }:Ma).put cf r.2,⟨0,0,0,r.2,0⟩)
def Ma.told(m:Ma)(v:V2):Int × Int:=(v.1,if v.1=2 then m.co.s.serial v.2 else v.2)
def Ma.who(m:Ma)(x:BY):Int:=if 16<=x.kd then 0 else if cf.threads<=x.t then 4 else if x.kd=1/\m.co.r.live x.t then 9 else if x.kd≠1/\¬m.co.r.live x.t then 14 else 0
def Ma.tax(m:Ma)(x:BY):Ma × BZ:=if m.co.phase≠3/\m.co.phase≠5 then (m,BZ.ok) else
 let credit:=min (m.bi-m.bo) cf.tax
 let rest:=cf.tax-credit
 if ¬m.admt cf x.t (rest*x.cost) then (m,BZ.err 21) else
 let m1:Ma:={ m with bo:=m.bo+credit }
 let r:=m1.co.workN cf rest.toNat
 (({ m1 with co:=r.1 }:Ma).charge cf x.t (r.2*x.cost),⟨0,0,0,r.2,credit⟩)
def Ma.slow(m:Ma)(x:BY):Ma × Int × BZ:=
 let m1:Ma:=if m.co.phase=0/\D4 m.co.s.c.ks<cf.trigger then { m with co:=(m.co.beginC cf).1 } else m
 let r:=m1.tax cf x
 if r.2.code≠0 then (r.1,0,r.2) else
 let q:=r.1.co.slow cf x.t x.n
 ({ r.1 with co:=q.1 },q.2.1,{ r.2 with code:=q.2.2 })
def Et(a:Int):V2:=if 0<=a/\a<2048 then (2,a) else (0,0)
def Ma.got(m:Ma)(x:BY)(a:Int)(y:BZ):Ma × BZ:=
 let m1:Ma:={ m with co:=(m.co.push x.t (Et a)).1 }
 (m1,{ y with kd:=(m1.told (Et a)).1,n:=(m1.told (Et a)).2 })
def Ma.alloc(m:Ma)(x:BY):Ma × BZ:=
 if x.n<0∨127<x.n∨x.cost<1∨cf.quantum<x.cost then (m,BZ.err 4) else
 if (m.co.roots x.t).length=16 then (m,BZ.err 3) else
 match m.co.fast cf x.t x.n with
 | (c,vz a)=>({ m with co:=c }:Ma).got x a BZ.ok
 | (_,v6)=>
  let r:=m.slow cf x
  if r.2.2.code≠0 then (r.1,r.2.2) else r.1.got x r.2.1 r.2.2
def Ma.root(m:Ma)(t i:Int):Option V2:=(m.co.roots t)[i.toNat]?
def Ma.object(m:Ma)(x:BY):Int × Int:=match m.root x.t x.i with
 | none=>(0,4)
 | some v=>if v.1≠2 then (0,12) else (v.2,0)
def Ma.value(m:Ma)(x:BY):V2 × Int:=
 if x.kd=4 then (if D8 1 x.n=0 then ((1,x.n),0) else ((0,0),4)) else
 if x.kd=6 then (Et m.co.global,0) else
 if x.kd=7 then (match m.root x.t x.i with | vz v=>(v,0) | v6=>((0,0),4)) else
 if x.kd=9 then (if (m.object x).2≠0 then ((0,0),(m.object x).2) else if (m.co.s.get (m.object x).1 x.f).2 then ((m.co.s.get (m.object x).1 x.f).1,0) else ((0,0),4)) else ((0,0),0)
def Ma.pushS(m:Ma)(x:BY):Ma × BZ:=
 if (m.value x).2≠0 then (m,BZ.err (m.value x).2) else
 match m.co.push x.t (m.value x).1 with
 | (_,v8)=>(m,BZ.err 3)
 | (c,v7)=>let m1:Ma:={ m with co:=c }; (m1,⟨0,(m1.told (m.value x).1).1,(m1.told (m.value x).1).2,0,0⟩)
def Ma.writeS(m:Ma)(x:BY):Ma × BZ:=
 if (m.object x).2≠0 then (m,BZ.err (m.object x).2) else
 match m.root x.t x.j with
 | none=>(m,BZ.err 4)
 | some v=>let r:=m.co.write x.t (m.object x).1 x.f v; ({ m with co:=r.1 },if r.2 then BZ.ok else BZ.err 4)
def Ma.ask(m:Ma)(x:BY):BZ:=match m.root x.t x.i with
 | none=>BZ.err 4
 | some v=>if x.kd=11/\m.root x.t x.j=v6 then BZ.err 4 else
  if x.kd=12/\v.1≠2 then BZ.err 12 else
  if x.kd=12 then⟨0,1,m.co.s.fields v.2,0,0⟩ else
  if v=(m.root x.t x.j).getD (0,0) then⟨0,1,1,0,0⟩ else⟨0,1,0,0,0⟩
def Ma.spend(m:Ma)(x:BY):Ma × BZ:=
 if x.kd=17 then (if (m.co.beginC cf).2 then ({ m with co:=(m.co.beginC cf).1 },BZ.ok) else (m,BZ.err 9)) else
 if x.n<1∨64<x.n then (m,BZ.err 4) else
 if x.kd=13 then (m.ownT cf x.t x.n,BZ.ok) else
 if x.kd=16 then m.ahead cf x.n else
 if x.cost<1∨cf.quantum<x.cost then (m,BZ.err 4) else
 if ¬m.admt cf x.t (x.n*x.cost) then (m,BZ.err 21) else
 let r:=m.ahead cf x.n
 (r.1.charge cf x.t (r.2.done*x.cost),r.2)
def Ma.doS(m:Ma)(x:BY):Ma × BZ:=
 if x.kd=1 then ({ m with co:=m.co.attach x.t },BZ.ok) else
 if x.kd=2 then ({ m with co:=m.co.detach cf x.t },BZ.ok) else
 if x.kd=3 then m.alloc cf x else
 if x.kd=4∨x.kd=5∨x.kd=6∨x.kd=7∨x.kd=9 then m.pushS x else
 if x.kd=8 then (match m.co.pop x.t with
  | (_,v6)=>(m,BZ.err 4)
  | (c,vz v)=>let m1:Ma:={ m with co:=c }; (m1,⟨0,(m1.told v).1,(m1.told v).2,0,0⟩)) else
 if x.kd=10 then m.writeS x else
 if x.kd=11∨x.kd=12 then (m,m.ask x) else
 if x.kd=14 then ({ m with co:=m.co.poll cf x.t },BZ.ok) else m.spend cf x
def Ma.step(m:Ma)(x:BY):Ma × BZ:=
 if x.check≠0 then (m,BZ.err x.check) else
 if m.who cf x≠0 then (m,BZ.err (m.who cf x)) else
 let r:=m.doS cf x
 (if 3<=x.kd/\x.kd<=12/\r.2.code=0 then r.1.ownT cf x.t 1 else r.1,r.2)
def Ce.new(n:Int):Ce:=⟨List.replicate n.toNat 0,List.replicate (n.toNat*32) 0,List.replicate 64 (0,0),λ_=>v8⟩
def Co.new:Co:=
 let s:St:=⟨Ce.new cf.pages,λ_=>v6,0⟩
 let r:=s.slow cf.pages.toNat (cf.threads+1) cf.threads 4
 ⟨r.1,⟨[],v8,λ_=>v8⟩,⟨0,List.replicate cf.threads.toNat (v8,0)⟩,List.replicate cf.threads.toNat [], -1,cf.pages,0,List.replicate 8 [],r.2.1,0,0,0⟩
def Ma.new:Ma:=⟨Co.new cf,λ_=>[],0,0,0⟩
end
def Dy{α : Type}{l:List α}{i:Nat}{d : α}(h:i<l.length):l.getD i d=l[i]:=by simp[xC,xO h]
def Tb{m:List Int}{a:Nat}(h:a<m.length):Cs m (a:Int)=m[a]:=by unfold Cs;rw[vn (by unfold EC;omega),zE,Dy h]
def O9{m:List Int}{b:Nat}(h:b<m.length):Cs m (b:Int)=(m[b]?).getD 0:=by rw[Tb h,xO h];rfl
def Jz{α : Type}{l:List α}{a n:Nat}{x : α}(h:a+n<=l.length)(b:Nat):(l.take a++List.replicate n x++l.drop (a+n))[b]?=if a<=b/\b<a+n then vz x else l[b]?:=by
 have e1:(l.take a).length=a:=by rw[b7];omega
 have e2:(l.take a++List.replicate n x).length=a+n:=by rw[yY,e1,yF]
 rw[yL,e2];by_cases c1:b<a+n
 ·rw[vn c1,yL,e1];by_cases c2:a<=b
  ·rw[vm (by omega),xT,vn (by omega),vn ⟨c2,c1⟩]
  ·rw[vn (by omega),yX,vn (by omega),vm (by omega)]
 ·rw[vm c1,vm (by omega),yW];congr 1;omega
def GN{m:List Int}{a n w b:Int}(h:EC m a n)(hb:0<=b)(hl:b<m.length):Cs (CV m a n w) b=if a<=b/\b<a+n then w else Cs m b:=by
 have hlen:=Dm m a n w;obtain⟨b,rfl⟩:=xQ hb;have hb':b<m.length:=by omega
 rw[O9 (by omega),O9 hb'];have h':=h;unfold EC at h';obtain⟨a,rfl⟩:=xQ h'.1;obtain⟨n,rfl⟩:=xQ h'.2.1;unfold CV;rw[vn h,zE,zE,Jz (by omega)];by_cases c:a<=b/\b<a+n
 ·rw[vn c,vn (by omega)];rfl
 ·rw[vm c,vm (by omega)]
def Gi{m:List Int}{a w b:Int}(h0:0<=a)(h1:a<m.length)(hb:0<=b)(hl:b<m.length):Cs (DA m a w) b=if b=a then w else Cs m b:=by
 unfold DA;rw[GN (by unfold EC;omega) hb hl];by_cases c:b=a
 ·rw[vn (by omega),vn c]
 ·rw[vm (by omega),vm c]
def El(m:List Int)(a w:Int):(DA m a w).length=m.length:=Dm _ _ _ _
def Eh(k:Int):(k=1/\BT k=2/\BQ k=16)∨(k=2/\BT k=4/\BQ k=8)∨(k=3/\BT k=8/\BQ k=4)∨(k=4/\BT k=16/\BQ k=2)∨((k<1∨4<k)/\BT k=0/\BQ k=0):=by
 by_cases h1:k=1
 ·subst h1;exact .inl ⟨rfl,rfl,rfl⟩
 by_cases h2:k=2
 ·subst h2;exact wh (.inl ⟨rfl,rfl,rfl⟩)
 by_cases h3:k=3
 ·subst h3;exact wh (wh (.inl ⟨rfl,rfl,rfl⟩))
 by_cases h4:k=4
 ·subst h4;exact wh (wh (wh (.inl ⟨rfl,rfl,rfl⟩)))
 refine wh (wh (wh (wh ⟨by omega,?_,?_⟩)))
 ·unfold BT;rw[vm h1,vm h2,vm h3,vm h4]
 ·unfold BQ;rw[vm h1,vm h2,vm h3,vm h4]
def F2{ks:List Int}{p:Nat}(h:p<ks.length):BS ks (p:Int)=ks[p]:=by unfold BS;rw[vn (by omega),zE,Dy h]
def DR{ks:List Int}{p:Int}(h:¬(0<=p/\p<ks.length)):BS ks p = -1:=by unfold BS;rw[vm h]
def Li{ks:List Int}{p:Nat}{k:Int}(q:Nat)(h:p<ks.length):BS (ks.set p k) (q:Int)=if q=p then k else BS ks (q:Int):=by
 by_cases hq:q<ks.length
 ·rw[F2 (by simpa using hq),F2 hq,zX];by_cases c:p=q
  ·subst c;simp
  ·rw[vm c,vm (vk c)]
 ·rw[DR (by simp;omega),DR (by omega),vm (by omega)]
def Dw{ks:List Int}{p n:Nat}{k:Int}(h:p+n<=ks.length):(Dg ks p n k).length=ks.length:=by unfold Dg;simp only[yY,b7,yF,zZ];omega
def Ii{ks:List Int}(p:Nat):BS ks (p:Int)=(ks[p]?).getD (-1):=by
 by_cases h:p<ks.length
 ·rw[F2 h,xO h];rfl
 ·rw[DR (by omega),yC (by omega)];rfl
def Lh{ks:List Int}{p n:Nat}{k:Int}(q:Nat)(h:p+n<=ks.length):BS (Dg ks p n k) (q:Int)=if p<=q/\q<p+n then k else BS ks (q:Int):=by
 rw[Ii,Ii];unfold Dg;rw[Jz h];by_cases c:p<=q/\q<p+n
 ·rw[vn c,vn c];rfl
 ·rw[vm c,vm c]
theorem GL:∀(ks:List Int),D7 ks<=ks.length/\(∀(i:Nat),i<D7 ks->ks[i]?=vz 6)/\ks[D7 ks]?≠vz 6
 | []=>⟨by simp[D7],by simp[D7],by simp⟩
 | k::ks=>by
  obtain⟨h1,h2,h3⟩:=GL ks;have e:D7 (k::ks)=if k=6 then D7 ks+1 else 0:=rfl;by_cases c:k=6
  ·rw[vn c]at e;rw[e];refine⟨by simp;omega,λi hi=>?_,by simpa using h3⟩;cases i with
   | zero=>simpa using c
   | succ i=>simpa using h2 i (by omega)
  ·rw[vm c]at e;rw[e];exact⟨by simp,λi hi=>by omega,by simpa using c⟩
def SR(ks:List Int)(n:Nat)(h2:∀i,i<n->ks[i]?=vz 6)(h3:ks[n]?≠vz 6):D7 ks=n:=by
 obtain⟨g1,g2,g3⟩:=GL ks;rcases Nat.lt_trichotomy (D7 ks) n with c|c|c
 ·exact absurd (h2 _ c) g3
 ·exact c
 ·exact absurd (g2 n c) h3
structure CF(w:wd)(b:Nat)(mv:wc)(m:List Int):Prop where
 blk:w.heap[b]?=vz (wj #[vw v7,mv] 295 (0,0))
 own:BO w mv 2 1 (Ca m)
 le:m.length<=2048
 rng:∀x∈m, -9223372036854775808<=x/\x<=9223372036854775807
def CF.keep{S:List Nat}{w w':wd}{b:Nat}{mv:wc}{m:List Int}(h:CF w b mv m)(hf:Fr S w w')(hb:b∉S)(hS:∀g∈BM mv,g∉S):CF w' b mv m:=⟨hf.at_ h.blk hb,h.own.keep' hf hS,h.le,h.rng⟩
def CF.keep0{w w':wd}{b:Nat}{mv:wc}{m:List Int}(h:CF w b mv m)(hf:Fr [] w w'):CF w' b mv m:=h.keep hf (by simp) (by simp)
def Nt{P:we}{w:wd}{t e:TypeId}{sz:Nat}(A:Option Addr)(n c:Nat)(k k' k2:IntKind)(l h mx:Int)(hu:P.underlying t=vz (.slice e))(hs:G9 P e=vz sz)(h0:0<=l)(h1:l<=h)(h2:h<=mx)(h3:mx<=(c:Int)):
  (Instr.sliceAt t (vt A n c) (vz (vq k l)) (vz (vq k' h)) (vz (vq k2 mx))).run P w=.ok (vt (if mx.toNat=l.toNat then A else A.map (·.add (l.toNat*sz))) (h.toNat-l.toNat) (mx.toNat-l.toNat)) w:=by
 have hs':(sizeOf e).run P w=.ok sz w:=D5 hs;have g1:0<=h:=by omega
 have g2:0<=mx:=by omega
 have g3:¬(max h 0<l):=by omega
 have g4:¬(h<l):=by omega
 have g5:¬(mx<h):=by omega
 have g6:h<=max mx 0:=by omega
 have g7:l<=max h 0:=by omega
 simp[Instr.sliceAt,Instr.slice,underlying,hu,Instr.sliceBounds,Instr.sliceBound,asIntOf,h0,h3,g1,g2,g6,g7,hs']
section
variable{K:VK}{w:wd}{b:Nat}{mv:wc}{m:List Int}
def CF.nb(h:CF w b mv m):b∉BM mv:=h.own.nb h.blk (by decide)
def WS(h:CF w b mv m)(hk:K (vq vy (m.length:Int)) w):I vp 308 #[vr (vz ⟨b,0,v6⟩)] w K:=by refine F308.sh ⟨_,Cj _ _ _ Tryz.underlying238,?_⟩;simp only[Ae];refine F308.k3.to ?_;simp only[zv];refine Ac (v:=mv) h.blk rfl (AK h.own.rd ?_);rw[Cm];exact hk
def Ry{a n:Int}(h:CF w b mv m)(h0:¬EC m a n->K (vu #[vt v6 0 0,vw v8]) w)(h1:EC m a n->∀A c,mv=vt A m.length c->(A=v6->m=[])->K (vu #[vt (if n=0 then A else A.map (·.add a.toNat)) n.toNat n.toNat,vw v7]) w):I vp 245 #[vr (vz ⟨b,0,v6⟩),vq vy a,vq vy n] w K:=by
 have hle:=h.le;refine F245.sh ⟨_,Cj _ _ _ Tryz.underlying238,?_⟩;simp only[zv];refine Ac (v:=vw v7) h.blk rfl ?_;simp only[zv];unfold EC at h0 h1;by_cases c1:a<0
 ·simp only[zv,c1];exact h0 (by omega)
 simp only[zv,c1];by_cases c2:n<0
 ·simp only[zv,c2];exact h0 (by omega)
 simp only[zv,c2];refine Ac (v:=mv) h.blk rfl (AK h.own.rd ?_);rw[Cm];by_cases c3:a>(m.length:Int)
 ·simp only[zv,c3];exact h0 (by omega)
 simp only[zv,c3];refine Ac (v:=mv) h.blk rfl (AK h.own.rd ?_);rw[Cm];simp only[zv];rw[BN (n:=(m.length:Int)-a) (by omega)];by_cases c4:n>(m.length:Int)-a
 ·simp only[zv,c4];exact h0 (by omega)
 simp only[zv,c4];refine F245.k3.to ?_;simp only[zv];refine Ac (v:=mv) h.blk rfl ?_;rw[BN (n:=a+n) (by omega)];obtain⟨A,c,rfl,hc,hA⟩:=h.own.cap;rw[Cm]at hc;refine A7 (Nt (e:=2) (sz:=1) A _ c vy vy vy a (a+n) (a+n) Tryz.underlying52 (by kernel_rfl) (by omega) (by omega) (by omega) (by omega)) ?_;have:=h1 (by omega) A c (by rw[Cm]) (λe=>by simpa[Ca] using hA e);rw[vb,show (a+n).toNat-a.toNat=n.toNat by omega]
 by_cases e:n=0
 ·rw[vn e]at this;rw[vn (by omega)];exact this
 ·rw[vm e]at this;rw[vm (by omega)];exact this
def MS{A:Option Addr}{N c a n j:Nat}{k:IntKind}(hj:j<n)(ha:a+j<N)(h:A6 1 (vt A N c) (vq k ((a+j:Nat):Int)) w K):A6 1 (vt (if (n:Int)=0 then A else A.map (·.add a)) n n) (vq k (j:Int)) w K:=by
 obtain⟨g,len,cap,k',j',e1,e2,h0,h1,hk⟩:=h;cases e1;cases e2;rw[vm (by omega)];refine⟨g.add a,n,n,k,j,rfl,rfl,by omega,by omega,?_⟩;have e:(g.add a).add ((j:Int).toNat*1)=g.add (((a+j:Nat):Int).toNat*1):=by rw[zE,zE,vb,vb];by_cases c1:a=0<;>by_cases c2:j=0<;>simp[Addr.add,uo,c1,c2]
 rw[e];exact hk
def PW{a:Int}(h:CF w b mv m)(hk:∀ok,K (vu #[vq vy (Cs m a),vw ok]) w):I vp 257 #[vr (vz ⟨b,0,v6⟩),vq vy a] w K:=by
 unfold Cs at hk;refine F257.sh (Ry h (λhn=>?_) λhy A c e hA=>?_)
 ·simp only[zv];have:=hk v8
  rwa [vm hn]at this
 ·have hle:=h.le;have hy':=hy;unfold EC at hy';simp only[zv];refine F257.k4.to ?_;have hi:a.toNat<m.length:=by omega
  refine MS (N:=m.length) (c:=c) (a:=a.toNat) (n:=1) (j:=0) (by omega) (by omega) ?_;rw[<-e];refine Bd h.own.rd (by omega:a.toNat+0<m.length) λg o cs e' fz hg hc=>Ac hg hc ?_;have:=hk v7;rw[vn hy]at this;rw[Dy hi]at this;exact this
def Rn{a n:Nat}{v:Int}(h:a+n+1<=m.length):(CV m a n v).set (a+n) v=CV m a ((n+1:Nat):Int) v:=by
 unfold CV;rw[vn (by unfold EC;omega),vn (by unfold EC;omega)];simp only[zE];apply zF;intro i;rw[zI,Jz (by omega),Jz (by omega)];by_cases c:a+n=i
 ·subst c;rw[vn rfl,vn (by simp;omega),vn (by omega)]
 ·rw[vm c];by_cases d:a<=i/\i<a+n
  ·rw[vn d,vn (by omega)]
  ·rw[vm d,vm (by omega)]
def P5{a:Nat}{v:Int}(h:a<=m.length):CV m a 0 v=m:=by unfold CV;rw[vn (by unfold EC;omega)];simp
def Rf(l:List Int)(j:Nat)(n:Int):(Ca l).set j [vq vy n]=Ca (l.set j n):=by simp[Ca,u6]
def Rm{a n v x:Int}(h:x∈CV m a n v):x∈m∨x=v:=by
 unfold CV at h;split at h
 ·rcases j4.1 h with h|h
  ·rcases j4.1 h with h|h
   ·exact .inl (yO h)
   ·exact wh (xN h)
  ·exact .inl (List.mem_of_mem_drop h)
 ·exact .inl h
def IW{a:Int}(h:CF w b mv m) : -9223372036854775808<=Cs m a/\Cs m a<=9223372036854775807:=by
 unfold Cs;split
 ·rename_i hm;unfold EC at hm;rw[Dy (by omega)];exact h.rng _ (zW _)
 ·omega
def QU{W:wd}{a n:Nat}{v:Int}{A:Option Addr}{c:Nat}{ok:wc}(hW:CF W b mv m)(e:mv=vt A m.length c)(hn:a+n<=m.length)(hv : -9223372036854775808<=v/\v<=9223372036854775807)(h:∀w',Fr (BM mv) W w'->CF w' b mv (CV m a n v)->K ok w'):
  ∀(d j:Nat) (w:wd),n=j+d->Fr (BM mv) W w->CF w b mv (CV m a j v)->
   F179.l3 K (vq vy v) (vt (if (n:Int)=0 then A else A.map (·.add a)) n n) ok (vq vy (n:Int)) (vq vy (j:Int)) w:=by
 have hle:=hW.le;intro d;induction d with
 | zero=>
  intro j w hd hf hM;refine F179.l3.to ?_;simp only[zv,show ¬((j:Int)<(n:Int)) by omega];rw[show j=n by omega]at hM;exact F179.k7.to (h w hf hM)
 | succ d ih=>
  intro j w hd hf hM;refine F179.l3.to ?_;simp only[zv,show ((j:Int)<(n:Int)) by omega];refine F179.k4.to (MS (N:=m.length) (c:=c) (by omega) (by omega) ?_);rw[<-e];have hl:=Dm m a j v;refine Bi (x:=vq vy v) hM.own (by omega) (by rw[Cm,hl];omega) rfl (by intro u hu;simp[wc.cells]at hu;subst hu;rfl) λw1 ho1 hf1 _=>?_;rw[zE]at ho1;have ho1:BO w1 mv 2 1 (Ca (CV m a ((j+1:Nat):Int) v)):=by rw[<-Rn (by omega), <-Rf];exact ho1
  refine F179.k6.to ?_;simp only[AC];rw[BN (n:=(j:Int)+1) (by omega),show (j:Int)+1=((j+1:Nat):Int) by omega];have hs:∀g,mv.ownBlock=vz g->g∈BM mv:=λg hg=>Cl.2 hg;exact ih (j+1) w1 (by omega) (hf.trans (hf1.mono λx hx=>hx)) ⟨hf1.at_ hM.blk hM.nb,ho1,by rw[Dm];exact hle,λx hx=>by
   rcases Rm hx with h1|h1
   ·exact hW.rng x h1
   ·rw[h1];exact hv⟩
def Ki{a n v:Int}(h:CF w b mv m)(hv : -9223372036854775808<=v/\v<=9223372036854775807)(hk:∀w',Fr (BM mv) w w'->CF w' b mv (CV m a n v)->K (vw (decide (EC m a n))) w'):I vp 179 #[vr (vz ⟨b,0,v6⟩),vq vy a,vq vy n,vq vy v] w K:=by
 refine F179.sh (Ry h (λhn=>?_) λhy A c e hA=>?_)
 ·simp only[zv];refine F179.l3.to ?_;simp only[zv,show ¬((0:Int)<((0:Nat):Int)) by omega];refine F179.k7.to ?_;have:=hk w (Fr.refl _ _) (by unfold CV;rw[vm hn];exact h)
  rwa [m8 hn]at this
 ·have hy':=hy;unfold EC at hy';obtain⟨a,rfl⟩:=xQ hy'.1;obtain⟨n,rfl⟩:=xQ hy'.2.1;simp only[zv,zE];refine QU (a:=a) (n:=n) h e (by omega) hv (λw' hf hM=>?_) n 0 w (by omega) (Fr.refl _ _) (by rw[show ((0:Nat):Int)=0 from rfl,P5 (by omega)];exact h);have:=hk w' hf hM
  rwa [o8 hy]at this
def Ot{a v:Int}(h:CF w b mv m)(hv : -9223372036854775808<=v/\v<=9223372036854775807)(hk:∀w',Fr (BM mv) w w'->CF w' b mv (DA m a v)->K (vw (decide (EC m a 1))) w'):I vp 247 #[vr (vz ⟨b,0,v6⟩),vq vy a,vq vy v] w K:=
 F247.sh (Ki h hv hk)
end
end
section
open Go.Proofs
noncomputable section
variable{K:VK}{w:wd}{x0 x1 x2 x3 x4 y0 y1 y4 y5 y6 y7 y8 y9 y10 y11 y12 y13 y34 y35:wc}
namespace F248
def ann:Cd:=⟨[(4,[7,9,11]),(7,[7,9,13])],[],[],[(7,(tk [0,2,3,1,7,4,5,6] (.go 8 (.take 9 .fin) .fin)))],v6⟩
def code:=cd f248
def BL:=tp f248
variable(K:VK)(y7 y9 y11 y13:wc)(w:wd)
def k4:=nk ann 53 [(7,y7),(9,y9),(11,y11)] w [1,1,1] code (BL K)
def k7:=nk ann 53 [(7,y7),(9,y9),(13,y13)] w [1,1,1,1,1] code (BL K)
attribute [irreducible] k4 k7
end F248
def F248.k4.to(h:(Ak 4 y11 w λa b=>Ab 0 y7 b λc d=>Ad c d λf g=>I vp 288 #[a,f] g λi j=>Av 0 i j λk m=>Av 1 i m λo p=>AE o p λq r=>Af q (Am vp (Instr.build 241 #[]) r λs t=>Aj 2 y9 s t λu=>Ak 2 y9 u λr10 _=>K (vu #[(vq vy 0),r10,(vw v8)]) u) (F248.k7 K y7 y9 k r))):F248.k4 K y7 y9 y11 w:=qq h
def F248.k7.to(h:(A4 w λS a=>Ab 0 y7 a λb c=>Ab 1 y7 c λd f=>Al S b f λg i=>Al S d i λj k=>U .sub j (vq vy 1) k λm o=>∃p,(∀w',S w'->(Instr.build 241 #[(0,y13),(1,m)]).run vp w'=.ok p w')/\((Aj 2 y9 p o λq=>(S q/\
 Ak 2 y9 q λr9 _=>K (vu #[g,r9,(vw v7)]) q))/\True))):F248.k7 K y7 y9 y13 w:=qq h
def F248.sh(h:(Aw (wj (wc.cells x3) 241) w λa b=>Aw (wj #[vq vy 0,vq vy 0] 241) b λc d=>I vp 286 #[x0,x1,x2] d λf g=>Av 0 f g λi j=>Av 1 f j λk m=>Aw (wj #[vr v6,vq vy 0,vq vy 0,vq vy 0] 319) m λo p=>Aj 4 o i p λq=>AE k q λr s=>Aa v8 r (Ab 1 a s) s λt u=>Aa v8 r (Ad t u) u λv x=>Aa v8 r (U .lss v (vq vy 1) x) x λy z=>Ar (vz r) (vz (vw v7)) (vz y) z λaa ab=>Aa v8 aa (Ak 4 o ab) ab λac ad=>Aa v8 aa (Ab 0 a ad) ad λae af=>Aa v8 aa (Ad ae af) af λag ah=>Aa v8 aa (λK=>I vp 287 #[ac,ag] ah K) ah λai aj=>Aa v8 aa (AE ai aj) aj λak al=>Ar (vz aa) (vz (vw v7)) (vz ak) al λam an=>Af am (Am vp (Instr.build 241 #[]) an λao ap=>Aj 2 c ao ap λaq=>Ak 2 c aq λr21 _=>K (vu #[(vq vy 0),r21,(vw v8)]) aq) (F248.k4 K a c o an))):I vp 248 #[x0,x1,x2,x3] w K:=BK (A:=F248.ann) (args:=[x0,x1,x2,x3]) (qq h)
namespace F253
def ann:Cd:=⟨[(4,[0,1,6,8]),(8,[6,8,34,35]),(10,[6,8,34,35]),(11,[6,8])],[(7,[6,8,34,35])],[],[],v6⟩
def code:=cd f253
def BL:=tp f253
variable(K:VK)(y0 y1 y6 y8 y34 y35:wc)(w:wd)
def k4:=nk ann 47 [(0,y0),(1,y1),(6,y6),(8,y8)] w [1,1,1] code (BL K)
def k11:=nk ann 47 [(6,y6),(8,y8)] w [1,1,1,1,1,1] code (BL K)
def l7:=nl ann 47 [(6,y6),(8,y8),(34,y34),(35,y35)] w [1,1,1,1,1,0,1,0] code (BL K)
def k8:=nk ann 47 [(6,y6),(8,y8),(34,y34),(35,y35)] w [1,1,1,1,1,0,1,0,0,1,1] code (BL K)
def k10:=nk ann 47 [(6,y6),(8,y8),(34,y34),(35,y35)] w [1,1,1,1,1,0,1,0,0,1,1,1] code (BL K)
attribute [irreducible] k4 k11 l7 k8 k10
end F253
def F253.k4.to(h:(I vp 177 #[y1,(vq vy 1)] w λa b=>Av 0 a b λc d=>Av 1 a d λf g=>Av 2 a g λi j=>I vp 179 #[y0,c,(vq vy 32),(vq vy 0)] j λk m=>Ab 3 y8 m λo p=>Ad o p λq r=>F253.l7 K y6 y8 q (vq vy 0) r)):F253.k4 K y0 y1 y6 y8 w:=qq h
def F253.k11.to(h:(Ab 3 y8 w λa b=>Ad a b λc d=>Am vp (Instr.build 241 #[(0,(vq vy 0)),(1,c)]) d λf g=>Aj 2 y6 f g λi=>Ak 2 y6 i λr5 _=>K (vu #[r5,(vw v7)]) i)):F253.k11 K y6 y8 w:=qq h
def F253.l7.to(h:(U .lss y35 y34 w λa b=>Af a (F253.k8 K y6 y8 y34 y35 b) (F253.k11 K y6 y8 b))):F253.l7 K y6 y8 y34 y35 w:=by unfold F253.l7 nl;exact BW (qq h)
def F253.k8.to(h:(Ak 4 y8 w λa b=>U .add y35 (vq vy 1) b λc d=>I vp 289 #[a,y35,c] d λf g=>F253.k10 K y6 y8 y34 y35 g)):F253.k8 K y6 y8 y34 y35 w:=qq h
def F253.k10.to(h:(U .add y35 (vq vy 1) w λa b=>F253.l7 K y6 y8 y34 a b)):F253.k10 K y6 y8 y34 y35 w:=qq h
def F253.sh(h:(Aw (wj #[vq vy 0,vq vy 0] 241) w λa b=>I vp 286 #[x0,x1,x2] b λc d=>Av 0 c d λf g=>Av 1 c g λi j=>Aw (wj #[vr v6,vq vy 0,vq vy 0,vq vy 0] 319) j λk m=>Aj 4 k f m λo=>AE i o λp q=>Af p (Am vp (Instr.build 241 #[]) q λr s=>Aj 2 a r s λt=>Ak 2 a t λr10 _=>K (vu #[r10,(vw v8)]) t) (F253.k4 K x0 x1 a k q))):I vp 253 #[x0,x1,x2] w K:=BK (A:=F253.ann) (args:=[x0,x1,x2]) (qq h)
namespace F286
def ann:Cd:=⟨[],[],[],[(3,(tk [1,2,3,0,4,5,6,7,8,9] (.go 10 (tk [11,12] (.go 13 (.take 14 .fin) .fin)) .fin)))],v6⟩
end F286
def F286.sh(h:(Aw (wj #[vr v6,vq vy 0,vq vy 0,vq vy 0] 319) w λa b=>I vp 263 #[x2] b λc d=>Am vp (Instr.build 319 #[(0,x0),(1,x1),(2,x2),(3,c)]) d λf g=>Aw (wj #[vr v6,vq vy 0,vq vy 0,vq vy 0] 319) g λi j=>Aj 4 i f j λk=>I vp 177 #[x1,(vq vy 1)] k λm o=>Av 0 m o λp q=>Av 1 m q λr s=>Av 2 m s λt u=>A4 u λS v=>Aa v7 t (Ab 3 i v) v λx y=>AN S 4 i y λz aa=>Aa v7 t (Al S x aa) aa λab ac=>Aa v7 t (U .gtr ab (vq vy 0) ac) ac λad ae=>Ar (vz t) (vz ad) (vz (vw v8)) ae λaf ag=>Aa v7 af (λK=>K r ag) ag λah ai=>Aa v7 af (λK=>K x0 ai) ai λaj ak=>(Aa v7 af (λK=>I vp 308 #[aj] ak K) ak λal am=>(S am/\
 Aa v7 af (U .lss ah al am) am λan ao=>Ar (vz af) (vz an) (vz (vw v8)) ao λap aq=>(Aj 4 a z aq λar=>(S ar/\
 Ak 4 a ar λr22 _=>K (vu #[r22,ap]) ar))/\True))/\True)):I vp 286 #[x0,x1,x2] w K:=BK (A:=F286.ann) (args:=[x0,x1,x2]) (qq h)
def F287.sh(h:(Aw (wj (wc.cells x0) 319) w λa b=>U .geq x1 (vq vy 0) b λc d=>Aa v7 c (λK=>K x1 d) d λf g=>Aa v7 c (Ab 3 a g) g λi j=>Aa v7 c (Ad i j) j λk m=>Aa v7 c (U .lss f k m) m λo p=>Ar (vz c) (vz o) (vz (vw v8)) p λq r=>K q r)):I vp 287 #[x0,x1] w K:=BK (A:=A0) (args:=[x0,x1]) (qq h)
namespace F288
def ann:=a1 [(5,[8])]
def code:=cd f288
def BL:=tp f288
variable(K:VK)(y8:wc)(w:wd)
@[irreducible]def k5:=nk ann 37 [(8,y8)] w [1,1,1,1] code (BL K)
end F288
def F288.k5.to(h:(U .sub (vq vy (-1)) y8 w λa b=>K (vu #[a,(vw v7)]) b)):F288.k5 K y8 w:=qq h
def F288.sh(h:(Aw (wj (wc.cells x0) 319) w λa b=>Ab 1 a b λc d=>Ad c d λf g=>Ab 2 a g λi j=>Ad i j λk m=>I vp 249 #[f,k,x1] m λo p=>Av 0 o p λq r=>Av 1 o r λs t=>Ab 0 a t λu v=>Ad u v λx y=>I vp 257 #[x,q] y λz aa=>Av 0 z aa λab ac=>Av 1 z ac λad ae=>U .geq ab (vq vy 0) ae λaf ag=>Aa v8 af (λK=>K ab ag) ag λah ai=>Aa v8 af (Ab 3 a ai) ai λaj ak=>Aa v8 af (Ad aj ak) ak λal am=>Aa v8 af (λK=>U .sub (vq vy (-1)) al am K) am λan ao=>Aa v8 af (U .lss ah an ao) ao λap aq=>Ar (vz af) (vz (vw v7)) (vz ap) aq λar au=>Af ar (K (vu #[(vq vy 0),(vw v8)]) au) (F288.k5 K ab au))):I vp 288 #[x0,x1] w K:=BK (A:=F288.ann) (args:=[x0,x1]) (qq h)
def F289.sh(h:(Aw (wj (wc.cells x0) 319) w λa b=>Ab 1 a b λc d=>Ad c d λf g=>Ab 2 a g λi j=>Ad i j λk m=>I vp 249 #[f,k,x1] m λo p=>Av 0 o p λq r=>Av 1 o r λs t=>Ab 0 a t λu v=>Ad u v λx y=>U .sub (vq vy (-1)) x2 y λz aa=>I vp 247 #[x,q,z] aa λab ac=>K (vu #[]) ac)):I vp 289 #[x0,x1,x2] w K:=BK (A:=A0) (args:=[x0,x1,x2]) (qq h)
namespace F344
def ann:=a1 [(4,[4,8,10,12])]
def code:=cd f344
def BL:=tp f344
variable(K:VK)(y4 y8 y10 y12:wc)(w:wd)
@[irreducible]def k4:=nk ann 64 [(4,y4),(8,y8),(10,y10),(12,y12)] w [1,1,1] code (BL K)
end F344
def F344.k4.to(h:(Ak 4 y12 w λa b=>Ab 0 y8 b λc d=>Ad c d λf g=>I vp 289 #[a,y4,f] g λi j=>Ab 1 y8 j λk m=>Ad k m λo p=>U .add o (vq vy 1) p λq r=>Am vp (Instr.build 241 #[(0,y4),(1,q)]) r λs t=>Aj 2 y10 s t λu=>Ak 2 y10 u λr10 _=>K (vu #[r10,(vw v7)]) u)):F344.k4 K y4 y8 y10 y12 w:=qq h
def F344.sh(h:(Aw (wj (wc.cells x3) 241) w λa b=>Aw (wj #[vq vy 0,vq vy 0] 241) b λc d=>I vp 286 #[x0,x1,x2] d λf g=>Av 0 f g λi j=>Av 1 f j λk m=>Aw (wj #[vr v6,vq vy 0,vq vy 0,vq vy 0] 319) m λo p=>Aj 4 o i p λq=>AE k q λr s=>Aa v8 r (Ak 4 o s) s λt u=>Aa v8 r (λK=>K x4 u) u λv x=>Aa v8 r (λK=>I vp 287 #[t,v] x K) x λy z=>Aa v8 r (AE y z) z λaa ab=>Ar (vz r) (vz (vw v7)) (vz aa) ab λac ad=>Aa v8 ac (Ab 1 a ad) ad λae af=>Aa v8 ac (Ad ae af) af λag ah=>Aa v8 ac (U .lss ag (vq vy 0) ah) ah λai aj=>Ar (vz ac) (vz (vw v7)) (vz ai) aj λak al=>Aa v8 ak (Ab 1 a al) al λam an=>Aa v8 ak (Ad am an) an λao ap=>Aa v8 ak (Ab 3 o ap) ap λaq ar=>Aa v8 ak (Ad aq ar) ar λau av=>Aa v8 ak (U .geq ao au av) av λaw ax=>Ar (vz ak) (vz (vw v7)) (vz aw) ax λay az=>Aa v8 ay (Ab 0 a az) az λba bb=>Aa v8 ay (Ad ba bb) bb λbc bd=>Aa v8 ay (U .lss bc (vq vy 0) bd) bd λbe bf=>
 Ar (vz ay) (vz (vw v7)) (vz be) bf λbg bh=>Aa v8 bg (Ab 0 a bh) bh λbi bj=>Aa v8 bg (Ad bi bj) bj λbk bl=>Aa v8 bg (Ab 3 o bl) bl λbm bn=>Aa v8 bg (Ad bm bn) bn λbo bp=>Aa v8 bg (U .gtr bk bo bp) bp λbq br=>Ar (vz bg) (vz (vw v7)) (vz bq) br λbs bt=>Af bs (Am vp (Instr.build 241 #[]) bt λbu bv=>Aj 2 c bu bv λbw=>Ak 2 c bw λr36 _=>K (vu #[r36,(vw v8)]) bw) (F344.k4 K x4 a c o bt))):I vp 344 #[x0,x1,x2,x3,x4] w K:=BK (A:=F344.ann) (args:=[x0,x1,x2,x3,x4]) (qq h)
def F112.sh(h:(I vp 170 #[x0] w λa b=>I vp 171 #[a] b λc d=>AH c d λf g=>U .mul f (vq vy 32) g λi j=>Am vp (Instr.build 237 #[(0,a)]) j λk m=>I vp 172 #[i] m λo p=>I vp 116 #[i] p λq r=>Am vp (Instr.build 244 #[(0,k),(1,o),(3,q)]) r λs t=>Aw (wj (wc.cells s) 244) t λu v=>K u v)):I vp 112 #[x0] w K:=BK (A:=A0) (args:=[x0]) (qq h)
namespace F114
def ann:=a1 [(3,[0])]
def code:=cd f114
def BL:=tp f114
variable(K:VK)(y0:wc)(w:wd)
@[irreducible]def k3:=nk ann 11 [(0,y0)] w [1,1] code (BL K)
end F114
def F114.k3.to(h:(Ag y0 w λa b=>Ab 0 a b λc d=>Ak 1 c d λf g=>I vp 174 #[f] g λi j=>K i j)):F114.k3 K y0 w:=qq h
def F114.sh(h:(I vp 173 #[x0] w λa b=>AE a b λc d=>Af c (K (vq vy 0) d) (F114.k3 K x0 d))):I vp 114 #[x0] w K:=BK (A:=F114.ann) (args:=[x0]) (qq h)
namespace F119
def ann:=a1 [(3,[0,1]),(6,[0,1,6])]
def code:=cd f119
def BL:=tp f119
variable(K:VK)(y0 y1 y6:wc)(w:wd)
def k3:=nk ann 48 [(0,y0),(1,y1)] w [1,1] code (BL K)
def k6:=nk ann 48 [(0,y0),(1,y1),(6,y6)] w [1,1,1,1] code (BL K)
attribute [irreducible] k3 k6
end F119
def F119.k3.to(h:(Ag y0 w λa b=>Ab 0 a b λc d=>Ab 0 c d λf g=>Ad f g λi j=>I vp 176 #[i,y1] j λk m=>Av 0 k m λo p=>Av 1 k p λq r=>AE q r λs t=>Af s (K (vu #[(vq vy 0),(vw v8)]) t) (F119.k6 K y0 y1 o t))):F119.k3 K y0 y1 w:=qq h
def F119.k6.to(h:(I vp 177 #[y6,y1] w λa b=>Av 0 a b λc d=>Av 1 a d λf g=>Av 2 a g λi j=>Ag y0 j λk m=>Ab 130 k m λo p=>Ad o p λq r=>I vp 178 #[q,c] r λs t=>Ag y0 t λu v=>Ab 1 u v λx y=>Ad x y λz aa=>U .mul y1 (vq vy 32) aa λab ac=>I vp 179 #[z,c,ab,(vq vy 0)] ac λad ae=>K (vu #[c,(vw v7)]) ae)):F119.k6 K y0 y1 y6 w:=qq h
def F119.sh(h:(I vp 173 #[x0] w λa b=>AE a b λc d=>Af c (K (vu #[(vq vy 0),(vw v8)]) d) (F119.k3 K x0 x1 d))):I vp 119 #[x0,x1] w K:=BK (A:=F119.ann) (args:=[x0,x1]) (qq h)
namespace F130
def ann:=a1 [(3,[0])]
def code:=cd f130
def BL:=tp f130
variable(K:VK)(y0:wc)(w:wd)
@[irreducible]def k3:=nk ann 11 [(0,y0)] w [1,1] code (BL K)
end F130
def F130.k3.to(h:(Ag y0 w λa b=>Ab 130 a b λc d=>Ad c d λf g=>I vp 202 #[f] g λi j=>K i j)):F130.k3 K y0 w:=qq h
def F130.sh(h:(I vp 173 #[x0] w λa b=>AE a b λc d=>Af c (K (vt v6 0 0) d) (F130.k3 K x0 d))):I vp 130 #[x0] w K:=BK (A:=F130.ann) (args:=[x0]) (qq h)
def F173.sh(h:(AG vp .neq 166 (.tmp 3) (.const (vr v6)) x0 (vr v6) w λa b=>Aa v7 a (λK=>K x0 b) b λc d=>Aa v7 a (Ag c d) d λf g=>Aa v7 a (Ab 1 f g) g λi j=>Aa v7 a (Ad i j) j λk m=>Aa v7 a (λK=>AG vp .neq 238 (.tmp 9) (.const (vr v6)) k (vr v6) m K) m λo p=>Ar (vz a) (vz o) (vz (vw v8)) p λq r=>K q r)):I vp 173 #[x0] w K:=BK (A:=A0) (args:=[x0]) (qq h)
def F174.sh(h:(Aw (wj (wc.cells x0) 237) w λa b=>Ab 0 a b λc d=>Ad c d λf g=>I vp 241 #[f] g λi j=>K i j)):I vp 174 #[x0] w K:=BK (A:=A0) (args:=[x0]) (qq h)
def F181.sh(h:(I vp 246 #[x0,x1] w λa b=>U .geq a (vq vy 0) b λc d=>Aa v7 c (λK=>K x0 d) d λf g=>Aa v7 c (Ag f g) g λi j=>Aa v7 c (Ab 1 i j) j λk m=>Aa v7 c (Ad k m) m λo p=>Aa v7 c (λK=>K x1 p) p λq r=>Aa v7 c (λK=>K x2 r) r λs t=>Aa v7 c (λK=>I vp 247 #[o,q,s] t K) t λu v=>Ar (vz c) (vz u) (vz (vw v8)) v λx y=>K x y)):I vp 181 #[x0,x1,x2] w K:=BK (A:=A0) (args:=[x0,x1,x2]) (qq h)
namespace F183
def ann:Cd:=⟨[(3,[0,1]),(5,[0,1,6,7,8])],[],[],[(4,(tk [0,1,2,4,5,6,7,8,9,10,3,11] (.go 12 (tk [13,14,15,16] (.go 17 (.take 18 (.go 19 (.take 20 .fin) .fin)) .fin)) (.go 17 (.go 12 (tk [13,14,15,16,18] (.go 19 (.take 20 .fin) .fin)) .fin) .fin)))),(6,(tk [0,1,3,4,2,5] (.go 6 .fin .fin))),(8,(tk [0,1,2,4,5,3] (.go 6 (.go 7 .fin .fin) .fin)))],v6⟩
def code:=cd f183
def BL:=tp f183
variable(K:VK)(y0 y1 y6 y7 y8:wc)(w:wd)
def k3:=nk ann 64 [(0,y0),(1,y1)] w [1,1] code (BL K)
def k5:=nk ann 64 [(0,y0),(1,y1),(6,y6),(7,y7),(8,y8)] w [1,1,1,1] code (BL K)
attribute [irreducible] k3 k5
end F183
def F183.k3.to(h:(I vp 186 #[y0,y1] w λa b=>A4 b λS c=>Ag y0 c λd f=>Ab 1 d f λg i=>Ag y0 i λj k=>Ab 2 j k λm o=>AP 64 2 m y1 o λp q=>Al S g q λr s=>AN S 2 p s λt u=>(I vp 248 #[r,y1,a,t] u λv x=>(S x/\
 Av 0 v x λy z=>Av 1 v z λaa ab=>Av 2 v ab λac ad=>(Aw (wj #[vq vy 0,vq vy 0] 241) ad λae af=>(S af/\
 (Aj 2 ae aa af λag=>(S ag/\
 F183.k5 K y0 y1 a y ae ag))/\True))/\True))/\((Aw (wj #[vq vy 0,vq vy 0] 241) u λah ai=>(S ai/\
 (I vp 248 #[r,y1,a,t] ai λaj ak=>(S ak/\
 Av 0 aj ak λal am=>Av 1 aj am λan ao=>Av 2 aj ao λap aq=>(Aj 2 ah an aq λar=>(S ar/\
 F183.k5 K y0 y1 a al ah ar))/\True))/\True))/\True))):F183.k3 K y0 y1 w:=qq h
def F183.k5.to(h:(I vp 249 #[y1,y6,y7] w λa b=>Av 0 a b λc d=>Av 1 a d λf g=>A4 g λS i=>Ag y0 i λj k=>Ab 2 j k λm o=>AN S 2 y8 o λp q=>AP 64 2 m y1 q λr s=>(Aj 2 r p s λt=>(S t/\
 Ag y0 t λu v=>Ab 130 u v λx y=>Ad x y λz aa=>I vp 178 #[z,c] aa λab ac=>A4 ac λS ad=>Ag y0 ad λae af=>Ab 1 ae af λag ah=>Al S ag ah λai aj=>(I vp 175 #[y6] aj λak al=>(S al/\
 (I vp 179 #[ai,c,ak,(vq vy 0)] al λam an=>(S an/\
 K (vu #[c,(vw v7)]) an))/\True))/\True))/\True)):F183.k5 K y0 y1 y6 y7 y8 w:=qq h
def F183.sh(h:(I vp 187 #[x0,x1] w λa b=>U .eql a (vq vy 0) b λc d=>Af c (K (vu #[(vq vy 0),(vw v8)]) d) (F183.k3 K x0 x1 d))):I vp 183 #[x0,x1] w K:=BK (A:=F183.ann) (args:=[x0,x1]) (qq h)
namespace F186
def ann:=a1 [(3,[0,1])]
def code:=cd f186
def BL:=tp f186
variable(K:VK)(y0 y1:wc)(w:wd)
@[irreducible]def k3:=nk ann 14 [(0,y0),(1,y1)] w [1,1] code (BL K)
end F186
def F186.k3.to(h:(Ag y0 w λa b=>Ab 0 a b λc d=>Ak 1 c d λf g=>I vp 250 #[f,y1] g λi j=>K i j)):F186.k3 K y0 y1 w:=qq h
def F186.sh(h:(I vp 173 #[x0] w λa b=>AE a b λc d=>Af c (K (vq vy (-1)) d) (F186.k3 K x0 x1 d))):I vp 186 #[x0,x1] w K:=BK (A:=F186.ann) (args:=[x0,x1]) (qq h)
namespace F187
def ann:=a1 [(3,[0,1])]
def code:=cd f187
def BL:=tp f187
variable(K:VK)(y0 y1:wc)(w:wd)
@[irreducible]def k3:=nk ann 16 [(0,y0),(1,y1)] w [1,1] code (BL K)
end F187
def F187.k3.to(h:(Ag y0 w λa b=>Ab 2 a b λc d=>AP 64 2 c y1 d λf g=>Ab 1 f g λi j=>Ad i j λk m=>K k m)):F187.k3 K y0 y1 w:=qq h
def F187.sh(h:(I vp 251 #[x0,x1] w λa b=>AE a b λc d=>Af c (K (vq vy 0) d) (F187.k3 K x0 x1 d))):I vp 187 #[x0,x1] w K:=BK (A:=F187.ann) (args:=[x0,x1]) (qq h)
namespace F188
def ann:Cd:=⟨[(3,[0,1]),(6,[6,7])],[],[],[(5,(tk [0,1,2,3,4,6,7,12,13] (.go 5 (.go 8 (tk [9,10,11,14] (.go 15 .fin .fin)) .fin) .fin)))],v6⟩
def code:=cd f188
def BL:=tp f188
variable(K:VK)(y0 y1 y6 y7:wc)(w:wd)
def k3:=nk ann 39 [(0,y0),(1,y1)] w [1,1] code (BL K)
def k6:=nk ann 39 [(6,y6),(7,y7)] w [1,1,1,1] code (BL K)
attribute [irreducible] k3 k6
end F188
def F188.k3.to(h:(Ag y0 w λa b=>Ab 0 a b λc d=>Ab 0 c d λf g=>Ad f g λi j=>I vp 252 #[i,y1] j λk m=>Av 0 k m λo p=>Av 1 k p λq r=>Af q (A4 r λS s=>Ag y0 s λt u=>Ab 1 t u λv x=>Ag y0 x λy z=>Ab 2 y z λaa ab=>(Ad v ab λac ad=>(S ad/\
 (I vp 253 #[ac,o,y1] ad λae af=>(S af/\
 Av 0 ae af λag ah=>Av 1 ae ah λai aj=>AP 64 2 aa o aj λak al=>(Aj 2 ak ag al λam=>(S am/\
 F188.k6 K o q am))/\True))/\True))/\True) (F188.k6 K o q r))):F188.k3 K y0 y1 w:=qq h
def F188.k6.to(h:(K (vu #[y6,y7]) w)):F188.k6 K y6 y7 w:=qq h
def F188.sh(h:(I vp 173 #[x0] w λa b=>AE a b λc d=>Af c (K (vu #[(vq vy 0),(vw v8)]) d) (F188.k3 K x0 x1 d))):I vp 188 #[x0,x1] w K:=BK (A:=F188.ann) (args:=[x0,x1]) (qq h)
def F197.sh(h:(I vp 173 #[x0] w λa b=>Aa v7 a (λK=>K x0 b) b λc d=>Aa v7 a (Ag c d) d λf g=>Aa v7 a (Ab 130 f g) g λi j=>Aa v7 a (Ad i j) j λk m=>Aa v7 a (λK=>K x1 m) m λo p=>Aa v7 a (λK=>I vp 244 #[k,o] p K) p λq r=>Ar (vz a) (vz q) (vz (vw v8)) r λs t=>K s t)):I vp 197 #[x0,x1] w K:=BK (A:=A0) (args:=[x0,x1]) (qq h)
namespace F198
def ann:=a1 [(3,[0,1])]
def code:=cd f198
def BL:=tp f198
variable(K:VK)(y0 y1:wc)(w:wd)
@[irreducible]def k3:=nk ann 17 [(0,y0),(1,y1)] w [1,1] code (BL K)
end F198
def F198.k3.to(h:(Ag y0 w λa b=>Ab 1 a b λc d=>Ad c d λf g=>I vp 257 #[f,y1] g λi j=>Av 0 i j λk m=>Av 1 i m λo p=>K (vu #[k,o]) p)):F198.k3 K y0 y1 w:=qq h
def F198.sh(h:(I vp 173 #[x0] w λa b=>AE a b λc d=>Af c (K (vu #[(vq vy 0),(vw v8)]) d) (F198.k3 K x0 x1 d))):I vp 198 #[x0,x1] w K:=BK (A:=F198.ann) (args:=[x0,x1]) (qq h)
namespace F212
def ann:=a1 [(3,[0,1])]
def code:=cd f212
def BL:=tp f212
variable(K:VK)(y0 y1:wc)(w:wd)
@[irreducible]def k3:=nk ann 26 [(0,y0),(1,y1)] w [1,1] code (BL K)
end F212
def F212.k3.to(h:(Ag y0 w λa b=>Ab 0 a b λc d=>Ab 0 c d λf g=>Ad f g λi j=>I vp 264 #[i,y1] j λk m=>K (vw v7) m)):F212.k3 K y0 y1 w:=qq h
def F212.sh(h:(I vp 251 #[x0,x1] w λa b=>AE a b λc d=>Aa v8 c (λK=>K x0 d) d λf g=>Aa v8 c (λK=>K x1 g) g λi j=>Aa v8 c (λK=>I vp 187 #[f,i] j K) j λk m=>Aa v8 c (λK=>K x0 m) m λo p=>Aa v8 c (λK=>K x1 p) p λq r=>Aa v8 c (λK=>I vp 186 #[o,q] r K) r λs t=>Aa v8 c (λK=>I vp 263 #[s] t K) t λu v=>Aa v8 c (U .lss k u v) v λx y=>Ar (vz c) (vz (vw v7)) (vz x) y λz aa=>Af z (K (vw v8) aa) (F212.k3 K x0 x1 aa))):I vp 212 #[x0,x1] w K:=BK (A:=F212.ann) (args:=[x0,x1]) (qq h)
namespace F246
def ann:=a1 [(3,[0,1]),(8,[0,6]),(10,[6])]
def code:=cd f246
def BL:=tp f246
variable(K:VK)(y0 y1 y6:wc)(w:wd)
def k3:=nk ann 42 [(0,y0),(1,y1)] w [1,1] code (BL K)
def k8:=nk ann 42 [(0,y0),(6,y6)] w [1,1,1,1,1] code (BL K)
def k10:=nk ann 42 [(6,y6)] w [1,1,1,1,1,1] code (BL K)
attribute [irreducible] k3 k8 k10
end F246
def F246.k3.to(h:(I vp 272 #[y1] w λa b=>I vp 186 #[y0,a] b λc d=>I vp 284 #[c,y1] d λf g=>Ag y0 g λi j=>Ab 0 i j λk m=>Ab 0 k m λo p=>Ad o p λq r=>I vp 285 #[q,a] r λs t=>U .lss f (vq vy 0) t λu v=>Aa v7 u (λK=>K s v) v λx y=>Aa v7 u (U .geq x (vq vy 0) y) y λz aa=>Ar (vz u) (vz z) (vz (vw v8)) aa λab ac=>Af ab (I vp 177 #[s,(vq vy 1)] ac λad ae=>Av 0 ad ae λaf ag=>Av 1 ad ag λah ai=>Av 2 ad ai λaj ak=>F246.k8 K y0 af ak) (F246.k8 K y0 f ac))):F246.k3 K y0 y1 w:=qq h
def F246.k8.to(h:(I vp 197 #[y0,y6] w λa b=>AE a b λc d=>Af c (K (vq vy (-1)) d) (F246.k10 K y6 d))):F246.k8 K y0 y6 w:=qq h
def F246.k10.to(h:(K y6 w)):F246.k10 K y6 w:=qq h
def F246.sh(h:(I vp 173 #[x0] w λa b=>AE a b λc d=>Af c (K (vq vy (-1)) d) (F246.k3 K x0 x1 d))):I vp 246 #[x0,x1] w K:=BK (A:=F246.ann) (args:=[x0,x1]) (qq h)
def F250.sh(h:(Aw (wj (wc.cells x0) 237) w λa b=>Ab 0 a b λc d=>Ad c d λf g=>I vp 283 #[f,x1] g λi j=>K i j)):I vp 250 #[x0,x1] w K:=BK (A:=A0) (args:=[x0,x1]) (qq h)
def F251.sh(h:(I vp 186 #[x0,x1] w λa b=>I vp 175 #[a] b λc d=>U .gtr c (vq vy 0) d λf g=>K f g)):I vp 251 #[x0,x1] w K:=BK (A:=A0) (args:=[x0,x1]) (qq h)
namespace F338
def ann:Cd:=⟨[(3,[0,1]),(9,[0,1,5,6]),(11,[])],[],[],[(10,(tk [0,1,2,3,4,6,7,8,9,10,11,12,14,19,20] (.go 5 (.go 13 (.go 15 (tk [16,17,18,21] (.go 22 .fin .fin)) .fin) .fin) (.go 13 (.go 5 (.go 15 (tk [16,17,18,21] (.go 22 .fin .fin)) .fin) .fin) .fin))))],v6⟩
def code:=cd f338
def BL:=tp f338
variable(K:VK)(y0 y1 y5 y6:wc)(w:wd)
def k3:=nk ann 61 [(0,y0),(1,y1)] w [1,1] code (BL K)
def k9:=nk ann 61 [(0,y0),(1,y1),(5,y5),(6,y6)] w [1,1,1,1,1,1] code (BL K)
def k11:=nk ann 61 [] w [1,1,1,1,1,1,1,1] code (BL K)
attribute [irreducible] k3 k9 k11
end F338
def F338.k3.to(h:(Ag y0 w λa b=>Ab 130 a b λc d=>Ad c d λf g=>I vp 337 #[f,y1] g λi j=>I vp 272 #[y1] j λk m=>I vp 186 #[y0,k] m λo p=>U .eql o (vq vy 5) p λq r=>Af q (Ag y0 r λs t=>Ab 0 s t λu v=>Ab 0 u v λx y=>Ad x y λz aa=>I vp 264 #[z,k] aa λab ac=>K (vw v7) ac) (F338.k9 K y0 y1 k o r))):F338.k3 K y0 y1 w:=qq h
def F338.k9.to(h:(I vp 343 #[y6,y1] w λa b=>Av 0 a b λc d=>Av 1 a d λf g=>A4 g λS i=>Ag y0 i λj k=>Ab 1 j k λm o=>Ag y0 o λp q=>Ab 2 p q λr s=>AP 64 2 r y5 s λt u=>Ag y0 u λv x=>Ab 2 v x λy z=>(Ad m z λaa ab=>(S ab/\
 (Ak 2 t ab λac ad=>(S ad/\
 (I vp 344 #[aa,y5,y6,ac,c] ad λae af=>(S af/\
 Av 0 ae af λag ah=>Av 1 ae ah λai aj=>AP 64 2 y y5 aj λak al=>(Aj 2 ak ag al λam=>(S am/\
 F338.k11 K am))/\True))/\True))/\True))/\((Ak 2 t z λan ao=>(S ao/\
 (Ad m ao λap aq=>(S aq/\
 (I vp 344 #[ap,y5,y6,an,c] aq λar au=>(S au/\
 Av 0 ar au λav aw=>Av 1 ar aw λax ay=>AP 64 2 y y5 ay λaz ba=>(Aj 2 az av ba λbb=>(S bb/\
 F338.k11 K bb))/\True))/\True))/\True))/\True))):F338.k9 K y0 y1 y5 y6 w:=qq h
def F338.k11.to(h:(K (vw v7) w)):F338.k11 K w:=qq h
def F338.sh(h:(I vp 197 #[x0,x1] w λa b=>AE a b λc d=>Af c (K (vw v8) d) (F338.k3 K x0 x1 d))):I vp 338 #[x0,x1] w K:=BK (A:=F338.ann) (args:=[x0,x1]) (qq h)
end
end
section
open Go.Proofs Go.RowKit
def H4(b:Nat)(p k:Int):wc := .agg #[vr (vz ⟨b,0,v6⟩),vq vy p,vq vy k,vq vy (BQ k)]
def Ez(l:Int × Int):wc := .agg #[vq vy l.1,vq vy l.2]
def Gv{b:Nat}{p k:Int}:∀v∈(H4 b p k).cells.toList,v.oneCell'=v7:=by intro v hv;simp only[H4,wc.cells,un,b8,vi]at hv;rcases hv with rfl|rfl|rfl|rfl<;>rfl
def Eg{l:Int × Int}:∀v∈(Ez l).cells.toList,v.oneCell'=v7:=by intro v hv;simp only[Ez,wc.cells,un,b8,vi]at hv;rcases hv with rfl|rfl<;>rfl
section
variable{K:VK}{w:wd}{b:Nat}{mv:wc}{m:List Int}{p k:Int}
def Yr(b:Nat)(p k:Int):(Instr.build 319 #[(0,vr (vz ⟨b,0,v6⟩)),(1,vq vy p),(2,vq vy k),(3,vq vy (BQ k))]).run vp w=.ok (H4 b p k) w:=by unfold H4;generalize BQ k=n;kernel_rfl
def Wf(a n:Int):(Instr.build 241 #[(0,vq vy a),(1,vq vy n)]).run vp w=.ok (Ez (a,n)) w:=by kernel_rfl
def Su:(Instr.build 241 #[]).run vp w=.ok (Ez (0,0)) w:=by kernel_rfl
def Ni(h:CF w b mv m)(hp:0<=p/\p<64)(hk:∀w',Fr [] w w'->K (vu #[H4 b p k,vw (decide (Fd m p k))]) w'):I vp 286 #[vr (vz ⟨b,0,v6⟩),vq vy p,vq vy k] w K:=by
 have hc:=Ee k;have hle:=h.le;refine F286.sh (Ay λx6 w1 hn1=>KS (A7 (Yr b p k) (Ay λx8 w2 hn2=>AB (x:=H4 b p k) hn2.at_ rfl Gv rfl λw3 hu3=>Jn hp (by omega) ?_)));have i1:=hn1.is;have i2:=hn2.is;have z1:=hn1.sz;have z2:=hn2.sz;have f3:Fr [] w w3:=(hn1.fr.trans hn2.fr).then hu3.fr λz hz=>wh (by simp only[yZ]at hz;omega);simp only[zv]
 refine A8 (λw'=>w'.heap[x8]?=vz (wj #[vr (vz ⟨b,0,v6⟩),vq vy p,vq vy k,vq vy (BQ k)] 319 (0,0))) λw4 hf4 _=>⟨hf4.at_ hu3.at_ (by simp),?_⟩;have f4:=f3.trans hf4;have c8:=hf4.at_ hu3.at_ (by simp);have c6:w4.heap[x6]?=vz (wj #[vr v6,vq vy 0,vq vy 0,vq vy 0] 319 (0,0)):=hf4.at_ (hu3.fr.at_ (hn2.fr.at_ hn1.at_ (by simp)) (by simp;omega)) (by simp);simp only[]
 refine AR (vs:=[vr (vz ⟨b,0,v6⟩),vq vy p,vq vy k,vq vy (BQ k)]) (λw' hw=>⟨_,_,_,hw,by simp,rfl⟩) (Aq (v:=vq vy (BQ k)) (λw' hw=>⟨_,_,_,hw,rfl⟩) ?_);have h4:=h.keep0 f4
 have fin:∀ok:Bool,ok=decide (Fd m p k)->(Aj 4 (vr (vz ⟨x6,0,v6⟩)) (.agg [wc.pointer (vz ⟨b,0,v6⟩),vq vy p,vq vy k,vq vy (BQ k)].toArray) w4 λw21=>(w21.heap[x8]?=vz (wj #[vr (vz ⟨b,0,v6⟩),vq vy p,vq vy k,vq vy (BQ k)] 319 (0,0))/\Ak 4 (vr (vz ⟨x6,0,v6⟩)) w21 λr22 _=>K (vu #[r22,vw ok]) w21)):=λok e=>by
  refine AB (x:=H4 b p k) c6 rfl Gv rfl λw5 hu5=>⟨hu5.fr.at_ c8 (by simp;omega),A5 hu5.at_ rfl ?_⟩;rw[e];exact hk w5 (f4.then hu5.fr λz hz=>wh (by simp only[yZ]at hz;omega))
 by_cases c1:BQ k>0
 ·simp only[zv,c1];refine⟨WS h4 ⟨c8,?_⟩,trivial⟩;simp only[Au];refine⟨fin _ (d9.2 ?_),trivial⟩;unfold Fd;omega
 ·simp only[zv,c1];refine⟨⟨c8,fin v8 (m8 ?_).symm,trivial⟩,trivial⟩;unfold Fd;omega
def TI{i:Int}(hk:∀w',Fr [] w w'->K (vw (decide (0<=i/\i<BQ k))) w'):I vp 287 #[H4 b p k,vq vy i] w K:=by
 refine F287.sh (Ay λx2 w1 hn1=>?_);by_cases c:i≥0
 ·simp only[zv,c];refine Ac (v:=vq vy (BQ k)) hn1.at_ rfl ?_;simp only[Au];have:=hk w1 hn1.fr
  rwa [show decide (0<=i/\i<BQ k)=decide (i<BQ k) from d9.2 (by omega)]at this
 ·simp only[zv,c];have:=hk w1 hn1.fr
  rwa [m8 (by omega)]at this
def W3{i:Int}(h:CF w b mv m)(hp:0<=p/\p<64)(hi:0<=i/\i<BQ k)(hk:∀w',Fr [] w w'->K (match Jw m p k i with | vz x=>vu #[vq vy x,vw v7] | v6=>vu #[vq vy 0,vw v8]) w'):I vp 288 #[H4 b p k,vq vy i] w K:=by
 have hc:=Ee k;refine F288.sh (Ay λx2 w1 hn1=>?_);have hb:w1.heap[x2]?=vz (wj #[vr (vz ⟨b,0,v6⟩),vq vy p,vq vy k,vq vy (BQ k)] 319 (0,0)):=hn1.at_;simp only[zv];refine Ac (v:=vq vy p) hb rfl (Ac (v:=vq vy k) hb rfl (OX hp hi ?_));simp only[zv];refine Ac (v:=vr (vz ⟨b,0,v6⟩)) hb rfl (PW (h.keep0 hn1.fr) λok=>?_);have hk:=hk w1 hn1.fr;unfold Jw at hk;have hx:=IW (a:=(JC p k i).1) h
 generalize Cs m (JC p k i).1=x at *;simp only[zv]at hk ⊢;by_cases c1:x≥0
 ·simp only[zv,c1]
  rwa [vn (.inl c1)]at hk
 simp only[zv,c1];refine Ac (v:=vq vy (BQ k)) hb rfl ?_;simp only[zv];rw[BN (n := -1-BQ k) (by omega)];by_cases c2:x < -1-BQ k
 ·simp only[zv,c2]
  rwa [vn (wh c2)]at hk
 simp only[zv,c2];rw[vm (by omega)]at hk;refine F288.k5.to ?_;simp only[AO];rw[BN (n := -1-x) (by omega)];exact hk
def Rj{i x:Int}(h:CF w b mv m)(hp:0<=p/\p<64)(hi:0<=i/\i<BQ k)(hx : -1000<=x/\x<=1000)(hk:∀w',Fr (BM mv) w w'->CF w' b mv (FQ m p k i x)->K (vu #[]) w'):
  I vp 289 #[H4 b p k,vq vy i,vq vy x] w K:=by refine F289.sh (Ay λx2 w1 hn1=>?_);have hb:w1.heap[x2]?=vz (wj #[vr (vz ⟨b,0,v6⟩),vq vy p,vq vy k,vq vy (BQ k)] 319 (0,0)):=hn1.at_;simp only[zv];refine Ac (v:=vq vy p) hb rfl (Ac (v:=vq vy k) hb rfl (OX hp hi ?_));simp only[zv];refine Ac (v:=vr (vz ⟨b,0,v6⟩)) hb rfl ?_;rw[BN (n := -1-x) (by omega)];exact Ot (h.keep0 hn1.fr) (by omega) λw2 hf2 h2=>hk w2 (hn1.fr.w.trans hf2) h2
end
section
variable{K:VK}{w:wd}{b:Nat}{mv:wc}{m:List Int}{p k:Int}
theorem K2(m:List Int)(p k:Int):∀n,(Ej m p k n).length=m.length
 | 0=>rfl
 | n+1=>by
  show (FQ (Ej m p k n) p k n (n+1)).length=_;unfold FQ;rw[El,K2 m p k n]
def Po{W:wd}{x6 x8:Nat}(hlt:∀g∈BM mv,g<W.heap.size)(hp:0<=p/\p<64)(h8:W.heap.size<=x8)(h6:W.heap.size<=x6)(hne:x6≠x8)(hk:∀w',Fr (BM mv) W w'->CF w' b mv (Ej m p k (BQ k).toNat)->w'.heap[x8]?=vz (wj #[vr (vz ⟨b,0,v6⟩),vq vy p,vq vy k,vq vy (BQ k)] 319 (0,0))->w'.heap[x6]?=vz (wj #[vq vy 0,vq vy 0] 241 (0,0))->F253.k11 K (vr (vz ⟨x6,0,v6⟩)) (vr (vz ⟨x8,0,v6⟩)) w'):
  ∀(d j:Nat) (w:wd),(BQ k).toNat=j+d->Fr (BM mv) W w->CF w b mv (Ej m p k j)->w.heap[x8]?=vz (wj #[vr (vz ⟨b,0,v6⟩),vq vy p,vq vy k,vq vy (BQ k)] 319 (0,0))->w.heap[x6]?=vz (wj #[vq vy 0,vq vy 0] 241 (0,0))->
   F253.l7 K (vr (vz ⟨x6,0,v6⟩)) (vr (vz ⟨x8,0,v6⟩)) (vq vy (BQ k)) (vq vy (j:Int)) w:=by
 have hc:=Ee k;intro d;induction d with
 | zero=>
  intro j w hd hf hM h8' h6';refine F253.l7.to ?_;simp only[zv,show ¬((j:Int)<BQ k) by omega];rw[show j=(BQ k).toNat by omega]at hM;exact hk w hf hM h8' h6'
 | succ d ih=>
  intro j w hd hf hM h8' h6';refine F253.l7.to ?_;simp only[zv,show ((j:Int)<BQ k) by omega];refine F253.k8.to (A5 h8' rfl ?_);simp only[AC];rw[BN (n:=(j:Int)+1) (by omega)];refine Rj (p:=p) (k:=k) (i:=(j:Int)) (x:=(j:Int)+1) hM hp (by omega) (by omega) λw1 hf1 hM1=>?_;refine F253.k10.to ?_;simp only[AC];rw[BN (n:=(j:Int)+1) (by omega),show (j:Int)+1=((j+1:Nat):Int) by omega]
  exact ih (j+1) w1 (by omega) (hf.trans hf1) hM1 (hf1.at_ h8' λhg=>by have:=hlt _ hg;omega) (hf1.at_ h6' λhg=>by have:=hlt _ hg;omega)
def TQ(h:CF w b mv m)(hp:0<=p/\p<64)(hk:∀w' ok,Fr (BM mv) w w'->CF w' b mv (D9 m p k).1->K (vu #[Ez (D9 m p k).2,vw ok]) w'):
  I vp 253 #[vr (vz ⟨b,0,v6⟩),vq vy p,vq vy k] w K:=by
 have hlt:=h.own.mem_lt;refine F253.sh (Ay λx6 w1 hn1=>Ni (h.keep0 hn1.fr) hp λw2 hf2=>?_);simp only[zv];refine Ay λx8 w3 hn3=>AB (x:=H4 b p k) hn3.at_ rfl Gv rfl λw4 hu4=>?_;have i1:=hn1.is;have z1:=hn1.sz;have s2:=hf2.size;have i3:=hn3.is;have f14:Fr [] w1 w4:=(hf2.trans hn3.fr).then hu4.fr λz hz=>wh (by simp only[yZ]at hz;omega);have f4:=hn1.fr.trans f14;have h4:=h.keep0 f4;have c6:=f14.at_ hn1.at_ (by simp)
 unfold D9 at hk;by_cases c:Fd m p k
 ·rw[vn c]at hk;simp only[zv,c];have hc:=Ee k;refine F253.k4.to (Jn hp (by omega) ?_)
  try simp only[zv]
  refine Ki h4 (by omega) λw5 hf5 h5=>?_;have off:∀z,w.heap.size<=z->z∉BM mv:=λz hz hg=>by have:=hlt z hg;omega
  have c8:=hf5.at_ hu4.at_ (off x8 (by omega));have c6':=hf5.at_ c6 (off x6 (by omega));refine Ac (v:=vq vy (BQ k)) c8 rfl ?_;have s5:=hf5.size;have f5:Fr (BM mv) w w5:=f4.w.trans hf5;refine Po (x6:=x6) (x8:=x8) (W:=w) (m:=CV m (p*32) 32 0) hlt hp (by omega) (by omega) (by omega) (λw6 hf6 h6 c8' c6''=>?_) _ 0 w5 (by rw[uy]) f5 h5 c8 c6';refine F253.k11.to ?_;simp only[zv]
  refine Ac (v:=vq vy (BQ k)) c8' rfl (A7 (Wf 0 (BQ k)) (AB (x:=Ez (0,BQ k)) c6'' rfl Eg rfl λw7 hu7=>A5 hu7.at_ rfl ?_));exact hk w7 v7 (hf6.then hu7.fr λz hz=>wh (by simp only[yZ]at hz;omega)) (h6.keep hu7.fr (by simp only[yZ];exact λe=>by have:=BP h.blk;omega) λg hg e=>by simp only[yZ]at e;have:=hlt g hg;omega)
 ·rw[vm c]at hk;simp only[zv,c];refine A7 Su (AB (x:=Ez (0,0)) c6 rfl Eg rfl λw5 hu5=>A5 hu5.at_ rfl ?_);exact hk w5 v8 (f4.w.then hu5.fr λz hz=>wh (by simp only[yZ]at hz;omega)) (h4.keep hu5.fr (by simp only[yZ];exact λe=>by have:=BP h.blk;omega) λg hg e=>by simp only[yZ]at e;have:=hlt g hg;omega)
def NW{l:Int × Int}(h:CF w b mv m)(hp:0<=p/\p<64)(hl : -9223372036854775808<=l.2/\l.2<=9223372036854775807)(hk:∀w' ok,Fr [] w w'->K (vu #[vq vy (DN m p k l).1,Ez (DN m p k l).2,vw ok]) w'):
  I vp 248 #[vr (vz ⟨b,0,v6⟩),vq vy p,vq vy k,Ez l] w K:=by
 obtain⟨l1,l2⟩:=l;have hc:=Ee k;refine F248.sh (Ay λx7 w1 hn1=>Ay λx9 w2 hn2=>Ni (h.keep0 (hn1.fr.trans hn2.fr)) hp λw3 hf3=>?_);simp only[zv];refine Ay λx11 w4 hn4=>AB (x:=H4 b p k) hn4.at_ rfl Gv rfl λw5 hu5=>?_;have i1:=hn1.is;have z1:=hn1.sz;have i2:=hn2.is;have z2:=hn2.sz;have s3:=hf3.size;have i4:=hn4.is;have z4:=hn4.sz
 have f25:Fr [] w2 w5:=(hf3.trans hn4.fr).then hu5.fr λz hz=>wh (by simp only[yZ]at hz;omega);have f5:Fr [] w w5:=hn1.fr.trans (hn2.fr.trans f25);have c7:w5.heap[x7]?=vz (wj #[vq vy l1,vq vy l2] 241 (0,0)):=f25.at_ (hn2.fr.at_ hn1.at_ (by simp)) (by simp);have c9:w5.heap[x9]?=vz (wj #[vq vy 0,vq vy 0] 241 (0,0)):=f25.at_ hn2.at_ (by simp);have c11:w5.heap[x11]?=vz (wj (H4 b p k).cells 319 (0,0)):=hu5.at_
 unfold DN at hk;have no:∀w6,Fr [] w5 w6->(∀w' ok,Fr [] w w'->K (vu #[vq vy 0,Ez (0,0),vw ok]) w')->Am vp (Instr.build 241 #[]) w6 λx35_19 w19=>Aj 2 (vr (vz ⟨x9,0,v6⟩)) x35_19 w19 λw20=>Ak 2 (vr (vz ⟨x9,0,v6⟩)) w20 λr21 _=>K (vu #[(vq vy 0),r21,(vw v8)]) w20:=λw6 hf6 hk=>by
  refine A7 Su (AB (x:=Ez (0,0)) (hf6.at_ c9 (by simp)) rfl Eg rfl λw7 hu7=>A5 hu7.at_ rfl ?_);exact hk w7 v8 ((f5.trans hf6).then hu7.fr λz hz=>wh (by simp only[yZ]at hz;omega))
 by_cases o1:Fd m p k
 ·simp only[zv,o1];refine Ac (v:=vq vy l2) c7 rfl ?_;by_cases o2:l2<1
  ·simp only[zv,o2];rw[vm (by omega)]at hk;exact no w5 (Fr.refl _ _) hk
  simp only[zv,o2];refine A5 c11 rfl (Ac (v:=vq vy l1) c7 rfl (TI (b:=b) (p:=p) (k:=k) λw6 hf6=>?_));by_cases o3:0<=l1/\l1<BQ k
  ·simp only[zv,o3,and_self];rw[vn ⟨o1,by omega,o3.1,o3.2⟩]at hk;refine F248.k4.to (A5 (hf6.at_ c11 (by simp)) rfl ?_);simp only[zv];refine Ac (v:=vq vy l1) (hf6.at_ c7 (by simp)) rfl ?_;refine W3 (b:=b) (p:=p) (k:=k) (h.keep0 (f5.trans hf6)) hp o3 λw7 hf7=>?_;have f67:=hf6.trans hf7;cases hnx:Jw m p k l1 with
   | none=>
    rw[hnx]at hk;simp only[zv];exact no w7 f67 hk
   | some x=>
    rw[hnx]at hk;simp only[zv];refine F248.k7.to (A8 (λw'=>w'.heap[x7]?=vz (wj #[vq vy l1,vq vy l2] 241 (0,0))) λw8 hf8 _=>⟨hf8.at_ (f67.at_ c7 (by simp)) (by simp),?_⟩);have f8:=f67.trans hf8;simp only[zv];refine Aq (v:=vq vy l1) (λw' hw=>⟨_,_,_,hw,rfl⟩) (Aq (v:=vq vy l2) (λw' hw=>⟨_,_,_,hw,rfl⟩) ?_);simp only[AO];rw[BN (n:=l2-1) (by simp only at hl;omega)]
    refine⟨_,λw' _=>Wf x (l2-1),⟨AB (x:=Ez (x,l2-1)) (f8.at_ c9 (by simp)) rfl Eg rfl λw9 hu9=>⟨hu9.fr.at_ (f8.at_ c7 (by simp)) (by simp;omega),A5 hu9.at_ rfl ?_⟩,trivial⟩⟩;exact hk w9 v7 ((f5.trans f8).then hu9.fr λz hz=>wh (by simp only[yZ]at hz;omega))
  ·simp only[zv,o3];rw[vm (λe=>o3 ⟨e.2.2.1,e.2.2.2⟩)]at hk;exact no w6 hf6 hk
 ·simp only[zv,o1];rw[vm (λe=>o1 e.1)]at hk;exact no w5 (Fr.refl _ _) hk
def NU{l:Int × Int}{i:Int}(h:CF w b mv m)(hp:0<=p/\p<64)(hk:∀w' ok,Fr (BM mv) w w'->CF w' b mv (EM m p k l i).1->K (vu #[Ez (EM m p k l i).2,vw ok]) w'):
  I vp 344 #[vr (vz ⟨b,0,v6⟩),vq vy p,vq vy k,Ez l,vq vy i] w K:=by
 obtain⟨l1,l2⟩:=l;have hc:=Ee k;have hlt:=h.own.mem_lt;refine F344.sh (Ay λx8 w1 hn1=>Ay λx10 w2 hn2=>Ni (h.keep0 (hn1.fr.trans hn2.fr)) hp λw3 hf3=>?_);simp only[zv];refine Ay λx12 w4 hn4=>AB (x:=H4 b p k) hn4.at_ rfl Gv rfl λw5 hu5=>?_;have i1:=hn1.is;have z1:=hn1.sz;have i2:=hn2.is;have z2:=hn2.sz;have s3:=hf3.size;have i4:=hn4.is;have z4:=hn4.sz
 have f25:Fr [] w2 w5:=(hf3.trans hn4.fr).then hu5.fr λz hz=>wh (by simp only[yZ]at hz;omega);have f5:Fr [] w w5:=hn1.fr.trans (hn2.fr.trans f25);have c8:w5.heap[x8]?=vz (wj #[vq vy l1,vq vy l2] 241 (0,0)):=f25.at_ (hn2.fr.at_ hn1.at_ (by simp)) (by simp);have c10:w5.heap[x10]?=vz (wj #[vq vy 0,vq vy 0] 241 (0,0)):=f25.at_ hn2.at_ (by simp)
 have c12:w5.heap[x12]?=vz (wj #[vr (vz ⟨b,0,v6⟩),vq vy p,vq vy k,vq vy (BQ k)] 319 (0,0)):=hu5.at_;have off:∀z,w.heap.size<=z->z∉BM mv:=λz hz hg=>by have:=hlt z hg;omega
 have hbl:=BP h.blk;unfold EM at hk;have no:∀w6,Fr [] w5 w6->(∀w' ok,Fr (BM mv) w w'->CF w' b mv m->K (vu #[Ez (0,0),vw ok]) w')->Am vp (Instr.build 241 #[]) w6 λx53_34 w34=>Aj 2 (vr (vz ⟨x10,0,v6⟩)) x53_34 w34 λw35=>Ak 2 (vr (vz ⟨x10,0,v6⟩)) w35 λr36 _=>K (vu #[r36,(vw v8)]) w35:=λw6 hf6 hk=>by
  refine A7 Su (AB (x:=Ez (0,0)) (hf6.at_ c10 (by simp)) rfl Eg rfl λw7 hu7=>A5 hu7.at_ rfl ?_);have f7:Fr [] w w7:=(f5.trans hf6).then hu7.fr λz hz=>wh (by simp only[yZ]at hz;omega);exact hk w7 v8 f7.w (h.keep0 f7)
 by_cases o1:Fd m p k
 ·simp only[zv,o1];refine A5 c12 rfl (TI (b:=b) (p:=p) (k:=k) λw6 hf6=>?_);have c8':=hf6.at_ c8 (by simp);have c12':=hf6.at_ c12 (by simp);by_cases o2:0<=i/\i<BQ k
  ·simp only[zv,o2,and_self];refine Ac (v:=vq vy l2) c8' rfl ?_;by_cases o3:l2<0
   ·simp only[zv,o3];rw[vm (by simp only;omega)]at hk;exact no w6 hf6 hk
   simp only[zv,o3];refine Ac (v:=vq vy l2) c8' rfl (Ac (v:=vq vy (BQ k)) c12' rfl ?_);by_cases o4:l2≥BQ k
   ·simp only[zv,o4];rw[vm (by simp only;omega)]at hk;exact no w6 hf6 hk
   simp only[zv,o4];refine Ac (v:=vq vy l1) c8' rfl ?_;by_cases o5:l1<0
   ·simp only[zv,o5];rw[vm (by simp only;omega)]at hk;exact no w6 hf6 hk
   simp only[zv,o5];refine Ac (v:=vq vy l1) c8' rfl (Ac (v:=vq vy (BQ k)) c12' rfl ?_);by_cases o6:l1>BQ k
   ·simp only[zv,o6];rw[vm (by simp only;omega)]at hk;exact no w6 hf6 hk
   simp only[zv,o6];rw[vn ⟨o1,o2.1,o2.2,by simp only;omega,by simp only;omega,by simp only;omega,by simp only;omega⟩]at hk;refine F344.k4.to (A5 c12' rfl ?_)
   try simp only[zv]
   refine Ac (v:=vq vy l1) c8' rfl (Rj (b:=b) (p:=p) (k:=k) (h.keep0 (f5.trans hf6)) hp o2 (by omega) λw7 hf7 h7=>?_);refine Ac (v:=vq vy l2) (hf7.at_ c8' (off _ (by omega))) rfl ?_
   try simp only[AC]
   rw[BN (n:=l2+1) (by omega)];refine A7 (Wf i (l2+1)) (AB (x:=Ez (i,l2+1)) (hf7.at_ (hf6.at_ c10 (by simp)) (off _ (by omega))) rfl Eg rfl λw8 hu8=>A5 hu8.at_ rfl ?_);refine hk w8 v7 (((f5.trans hf6).w.trans hf7).then hu8.fr λz hz=>wh (by simp only[yZ]at hz;omega)) (h7.keep hu8.fr (by simp;omega) λg hg e=>by simp only[yZ]at e;have:=hlt g hg;omega)
  ·simp only[zv,o2];rw[vm (λe=>o2 ⟨e.2.1,e.2.2.1⟩)]at hk;exact no w6 hf6 hk
 ·simp only[zv,o1];rw[vm (λe=>o1 e.1)]at hk;exact no w5 (Fr.refl _ _) hk
end
end
def Dx{n:Int}(h:0<=n/\n<18446744073709551616):IntKind.u64.wrap n=n:=by unfold IntKind.wrap IntKind.bits IntKind.signed;simp;omega
section
variable{P:we}{w:wd}{t:TypeId}
def IG(x y:Operand)(a:Int)(h0:0<=a)(h1:a<18446744073709551616):(do eqGuard .and t x y (vq .u64 a) (vq .u64 4294967295);binOp .and t (vq .u64 a) (vq .u64 4294967295):Sem wc).run P w=.ok (vq .u64 (a % 4294967296)) w:=by
 have hm:(BitVec.ofInt 64 4294967295).toNat=2 ^ 32-1:=by decide
 have key:(BitVec.ofInt 64 a &&& BitVec.ofInt 64 4294967295).toNat=(a % ((2 ^ 64:Nat):Int)).toNat % 2 ^ 32:=by rw[BitVec.toNat_and,BitVec.toNat_ofInt,hm,Nat.and_two_pow_sub_one_eq_mod]
 have e:IntKind.u64.wrap ((BitVec.ofInt 64 a &&& BitVec.ofInt 64 4294967295).toNat:Nat)=a % 4294967296:=by rw[key,Dx (by omega)];omega
 have e':(Op.intBits .and .u64 a 4294967295:Sem wc)=pure (vq .u64 (IntKind.u64.wrap ((BitVec.ofInt 64 a &&& BitVec.ofInt 64 4294967295).toNat:Nat))):=rfl;simp only[u1,Cz,zN];show (Op.intBits .and .u64 a 4294967295).run P w=_;rw[e',e];rfl
def G6(x y:Operand)(a:Int):(do eqGuard .shr t x y (vq .u64 a) (vq .u64 32);binOp .shr t (vq .u64 a) (vq .u64 32):Sem wc).run P w=.ok (vq .u64 (a / 4294967296)) w:=by
 simp only[u1,Cz,zN];show (Op.shift .shr .u64 a .u64 32).run P w=_;have:a.fdiv 4294967296=a / 4294967296:=by rw[wZ _ (by decide)]
 simp[Op.shift,IntKind.bits,this]
end
section
open Go.Proofs Go.RowKit
section
variable{P:we}{w:wd}{t:TypeId}
def Ns(x y:Operand)(a j:Nat)(hj:j<64):(do eqGuard .shr t x y (vq .u64 (a:Int)) (vq vy (j:Int));binOp .shr t (vq .u64 (a:Int)) (vq vy (j:Int)):Sem wc).run P w=.ok (vq .u64 ((a / 2 ^ j:Nat):Int)) w:=by
 simp only[u1,Cz,zN];show (Op.shift .shr .u64 a vy j).run P w=_;have h1:¬((j:Int)<0):=by omega
 have h2:min (j:Int).toNat 64=j:=by omega
 have h3:((a:Int)).fdiv (2 ^ j)=((a / 2 ^ j:Nat):Int):=by
  rw[wZ _ (Int.pow_nonneg (by decide))]
  push_cast
  rfl
 simp[]
def Kf(x y:Operand)(a j:Nat)(hj:j<64):(do eqGuard .shl t x y (vq .u64 (a:Int)) (vq vy (j:Int));binOp .shl t (vq .u64 (a:Int)) (vq vy (j:Int)):Sem wc).run P w=.ok (vq .u64 ((a*2 ^ j % 18446744073709551616:Nat):Int)) w:=by
 simp only[u1,Cz,zN];show (Op.shift .shl .u64 a vy j).run P w=_;have h1:¬((j:Int)<0):=by omega
 have h2:min (j:Int).toNat 64=j:=by omega
 have h3:IntKind.u64.wrap ((a:Int)*2 ^ j)=((a*2 ^ j % 18446744073709551616:Nat):Int):=by
  have e:(a:Int)*2 ^ j=((a*2 ^ j:Nat):Int):=by push_cast;rfl
  rw[IntKind.wrap_u64,e];generalize a*2 ^ j=z;omega
 simp[h3]
def FK{a:Nat}(h:a<2 ^ 64):(BitVec.ofInt 64 (a:Int)).toNat=a:=by
 rw[BitVec.toNat_ofInt];have:((a:Int) % ((2 ^ 64:Nat):Int)).toNat=a:=by omega
 exact this
def Sr(x y:Operand)(a b:Nat)(ha:a<2 ^ 64)(hb:b<2 ^ 64):(do eqGuard .and t x y (vq .u64 (a:Int)) (vq .u64 (b:Int));binOp .and t (vq .u64 (a:Int)) (vq .u64 (b:Int)):Sem wc).run P w=.ok (vq .u64 ((a &&& b:Nat):Int)) w:=by have e':(Op.intBits .and .u64 a b:Sem wc)=pure (vq .u64 (IntKind.u64.wrap ((BitVec.ofInt 64 a &&& BitVec.ofInt 64 b).toNat:Nat))):=rfl;simp only[u1,Cz,zN];show (Op.intBits .and .u64 a b).run P w=_;have hl:a &&& b<2 ^ 64:=Nat.and_lt_two_pow _ hb;rw[e',BitVec.toNat_and,FK ha,FK hb,Dx (by omega)];rfl
def UT(x y:Operand)(a b:Nat)(ha:a<2 ^ 64)(hb:b<2 ^ 64):(do eqGuard .or t x y (vq .u64 (a:Int)) (vq .u64 (b:Int));binOp .or t (vq .u64 (a:Int)) (vq .u64 (b:Int)):Sem wc).run P w=.ok (vq .u64 ((a ||| b:Nat):Int)) w:=by
 have e':(Op.intBits .or .u64 a b:Sem wc)=pure (vq .u64 (IntKind.u64.wrap ((BitVec.ofInt 64 a ||| BitVec.ofInt 64 b).toNat:Nat))):=rfl;simp only[u1,Cz,zN];show (Op.intBits .or .u64 a b).run P w=_;have hl:a ||| b<2 ^ 64:=Nat.or_lt_two_pow ha hb
 rw[e',BitVec.toNat_or,FK ha,FK hb,Dx (by omega)];rfl
def NC(x y:Operand)(a b:Nat)(ha:a<2 ^ 64)(hb:b<2 ^ 64):∃r:Nat,r<2 ^ 64/\(∀i,i<64->r.testBit i=(a.testBit i && !b.testBit i))/\∀w,(do eqGuard .andNot t x y (vq .u64 (a:Int)) (vq .u64 (b:Int));binOp .andNot t (vq .u64 (a:Int)) (vq .u64 (b:Int)):Sem wc).run P w=.ok (vq .u64 (r:Int)) w:=by
 refine⟨(BitVec.ofInt 64 a &&& ~~~ BitVec.ofInt 64 b).toNat,BitVec.isLt _,λi hi=>?_,λw=>?_⟩
 ·rw[BitVec.testBit_toNat,BitVec.getLsbD_and,BitVec.getLsbD_not, <-BitVec.testBit_toNat, <-BitVec.testBit_toNat,FK ha,FK hb];simp[hi]
 ·have e':(Op.intBits .andNot .u64 a b:Sem wc)=pure (vq .u64 (IntKind.u64.wrap ((BitVec.ofInt 64 a &&& ~~~ BitVec.ofInt 64 b).toNat:Nat))):=rfl;simp only[u1,Cz,zN];show (Op.intBits .andNot .u64 a b).run P w=_;have hl:=(BitVec.ofInt 64 (a:Int) &&& ~~~ BitVec.ofInt 64 (b:Int)).isLt;rw[e',Dx (by omega)];rfl
end
structure CZ(w:wd)(b:Nat)(n:Int)(s:Bs):Prop where
 blk:∃cs:Array wc,w.heap[b]?=vz (wj cs 255 (0,0))/\cs.size=34/\cs[0]?=vz (vw v7)/\cs[1]?=vz (vq vy n)/\∀k,k<32->∃x:Nat,cs[2+k]?=vz (vq .u64 (x:Int))/\x<2 ^ 64/\∀j,j<64->x.testBit j=s (64*k+j)
 rng:0<=n/\n<=2048
 sup:∀i:Nat,s i=v7->(i:Int)<n
def CZ.keep{S:List Nat}{w w':wd}{b:Nat}{n:Int}{s:Bs}(h:CZ w b n s)(hf:Fr S w w')(hb:b∉S):CZ w' b n s:=by obtain⟨cs,h1,h2⟩:=h.blk;exact⟨⟨cs,hf.at_ h1 hb,h2⟩,h.rng,h.sup⟩
def AU{K:VK}{w:wd}{ln n g o:Nat}{k:IntKind}{j:Int}(h0:0<=j)(h1:j<(ln:Int))(h:K (vr (vz ⟨g,o+j.toNat*n,v6⟩)) w):AP ln n (vr (vz ⟨g,o,v6⟩)) (vq k j) w K:=by refine⟨⟨g,o,v6⟩,k,j,rfl,rfl,h0,h1,?_⟩;rw[Go.Proofs.QV.add_mk];exact h
section
variable{K:VK}{w:wd}{b:Nat}{n:Int}{s:Bs}
def Wx{i:Int}(h:CZ w b n s)(hk:K (vw (decide (0<=i) && decide (i<n))) w):I vp 243 #[vr (vz ⟨b,0,v6⟩),vq vy i] w K:=by
 obtain⟨cs,c1,c2,c3,c4,c5⟩:=h.blk;refine F243.sh ⟨_,CN _ _ _ Tryz.underlying177,?_⟩;simp only[zv];refine Ac (v:=vw v7) c1 c3 ?_;simp only[zv];by_cases h1:i≥0
 ·simp only[zv,h1];refine Ac (v:=vq vy n) c1 c4 ?_;simp only[Au]
  rwa [o8 h1,Bool.true_and]at hk
 ·simp only[zv,h1]
  rwa [m8 h1,Bool.false_and]at hk
def Mk{i:Int}(h:CZ w b n s)(hk:K (vw (EY n s i)) w):I vp 244 #[vr (vz ⟨b,0,v6⟩),vq vy i] w K:=by
 obtain⟨cs,c1,c2,c3,c4,c5⟩:=h.blk;have hn:=h.rng;refine F244.sh (Wx h ?_);unfold EY at hk;by_cases hi:0<=i/\i<n
 ·rw[o8 hi.1,o8 hi.2]at hk ⊢;simp only[zv,Bool.and_self,Bool.true_and]at hk ⊢;refine⟨_,DT _ _ i 64 (by decide),?_⟩;rw[xA hi.1,BN (by omega)];refine AU (by omega) (by omega) ?_;obtain⟨x,x1,x2,x3⟩:=c5 (i / 64).toNat (by omega);refine Ac (v:=vq .u64 (x:Int)) c1 (by rw[vb];exact x1) ⟨_,FL _ _ i 64 (by decide),?_⟩;rw[xB hi.1];obtain⟨j,hj⟩:=xQ (show 0<=i % 64 by omega);rw[hj]
  refine⟨_,Ns _ _ x j (by omega),⟨_,Sr _ _ (x / 2 ^ j) 1 (Nat.lt_of_le_of_lt (Nat.div_le_self _ _) x2) (by decide),?_⟩⟩;simp only[Ap];have e:decide (((x / 2 ^ j &&& 1:Nat):Int)=1)=s i.toNat:=by have:=x3 j (by omega);rw[show 64*(i / 64).toNat+j=i.toNat by omega]at this;rw[<-this,Nat.testBit_eq_decide_div_mod_eq,Nat.and_one_is_mod];exact d9.2 (by omega)
  rw[e];exact hk
 ·have e:(decide (0<=i) && decide (i<n))=v8:=by rw[Bool.and_eq_false_iff];simp only[xU];omega
  rw[e]at hk ⊢;simp only[zv,Bool.false_and]at hk ⊢;exact hk
end
end
section
open Go.Proofs Go.Shelf
def Vc:Go.Shelf.Ren:=⟨fun | 29=>291 | n=>n,fun | 22=>210 | 3=>3 | 4=>4 | 25=>157 | 54=>334 | 0=>0 | 5=>5 | n=>n,fun | 1=>0 | n=>n⟩
def YH:Lays7.n29 vp Vc:={
 mixed:=by kernel_rfl,
 f29:=func291.trans (vh vz (by kernel_rfl)),
 t0:=Tryz.underlying0,
 a0:=Tryz.isAgg0,
 z0:=Tryz.sizeOf0,
 v0:=Tryz.zeroValue0,
 i0:=by kernel_rfl,
 t3:=Tryz.underlying3,
 a3:=Tryz.isAgg3,
 z3:=Tryz.sizeOf3,
 v3:=Tryz.zeroValue3,
 i3:=by kernel_rfl,
 t4:=Tryz.underlying4,
 a4:=Tryz.isAgg4,
 z4:=Tryz.sizeOf4,
 v4:=Tryz.zeroValue4,
 i4:=by kernel_rfl,
 t5:=Tryz.underlying5,
 a5:=Tryz.isAgg5,
 z5:=Tryz.sizeOf5,
 v5:=Tryz.zeroValue5,
 i5:=by kernel_rfl,
 t22:=Tryz.underlying210,
 a22:=Tryz.isAgg210,
 z22:=Tryz.sizeOf210,
 v22:=Tryz.zeroValue210,
 i22:=by kernel_rfl,
 t25:=Tryz.underlying157,
 a25:=Tryz.isAgg157,
 z25:=Tryz.sizeOf157,
 v25:=Tryz.zeroValue157,
 i25:=by kernel_rfl,
 t54:=Tryz.underlying334,
 a54:=Tryz.isAgg334,
 z54:=Tryz.sizeOf334,
 g1:=by kernel_rfl }
end
section
open Go.Proofs Go.RowKit
def F0(w:wd):Prop:=∃cs e fz,w.heap[0]?=vz (wj cs e fz)/\∀j,j<Lib.deBruijn64tab.length->cs[j]?=vz (vq .u8 (Lib.deBruijn64tab.getD j 0:Nat))
def F0.keep{S:List Nat}{w w':wd}(h:F0 w)(hf:Fr S w w')(h0:0∉S):F0 w':=by obtain⟨cs,e,fz,h1,h2⟩:=h;exact⟨cs,e,fz,hf.at_ h1 h0,h2⟩
def SC{x:Nat}(h0:x≠0)(h:x<2 ^ 64):Lib.ctz 64 x<64/\x.testBit (Lib.ctz 64 x)=v7/\∀j,j<Lib.ctz 64 x->x.testBit j=v8:=by
 have e:Lib.ctz 64 x=Lib.ctzFrom 64 x:=by unfold Lib.ctz;rw[vm h0]
 obtain⟨m,h1,h2⟩:=Lib.ctzFrom_spec 64 x (by omega) h;rw[e];generalize Lib.ctzFrom 64 x=c at *;subst h1;refine⟨h2,?_,λj hj=>?_⟩
 ·rw[ux,Nat.testBit_mul_two_pow];simp
 ·rw[ux,Nat.testBit_mul_two_pow];simp;omega
section
variable{K:VK}{w:wd}{b:Nat}{n:Int}{s:Bs}
def XB{x:Nat}(hT:F0 w)(hx:x<2 ^ 64)(h:K (vq vy (Lib.ctz 64 x:Nat)) w):I vp 291 #[vq .u64 (x:Int)] w K:=by
 obtain⟨cs,e,fz,h1,h2⟩:=hT;refine (Any7.bits_TrailingZeros64 YH x hx w λ_ j hj=>?_).mono ?_
 ·show w.cell? ⟨0,j,v6⟩=_;rw[EW h1,h2 j hj]
 ·rintro e w' ⟨rfl,rfl⟩;exact⟨_,rfl,h⟩
def CZ.word{w':wd}{cs:Array wc}{i:Nat}{v:Bool}{x:Nat}(h:CZ w b n s)(hb:w.heap[b]?=vz (wj cs 255 (0,0)))(hi:(i:Int)<n)(hx:x<2 ^ 64)(hbit:∀j,j<64->x.testBit j=CG s i v (64*(i / 64)+j))(hu:GB w b (wj (cs.setIfInBounds (2+i / 64) (vq .u64 (x:Int))) 255 (0,0)) w'):CZ w' b n (CG s i v):=by
 obtain⟨cs',c1,c2,c3,c4,c5⟩:=h.blk;rw[hb]at c1;simp only[zM,Obj.cells.injEq,and_true]at c1;subst c1;have hr:=h.rng;refine⟨⟨_,hu.at_,by simpa using c2,?_,?_,λk hk=>?_⟩,hr,λj hj=>?_⟩
 ·rw[wV (by omega)];exact c3
 ·rw[wV (by omega)];exact c4
 ·by_cases e:k=i / 64
  ·subst e;refine⟨x,?_,hx,hbit⟩;rw[Array.getElem?_setIfInBounds_self_of_lt (by omega)]
  ·obtain⟨y,y1,y2,y3⟩:=c5 k hk;refine⟨y,?_,y2,λj hj=>?_⟩
   ·rw[wV (by omega)];exact y1
   ·rw[y3 j hj];unfold CG;rw[vm (by omega)]
 ·unfold CG at hj;by_cases e:j=i
  ·subst e;exact hi
  ·rw[vm e]at hj;exact h.sup j hj
def Q8{i:Nat}{v:Bool}(h:s i=v):CG s i v=s:=by
 funext j
 unfold CG;by_cases e:j=i
 ·rw[vn e,e,h]
 ·rw[vm e]
def OV{i:Int}(h:CZ w b n s)(hk:∀w',Fr [b] w w'->CZ w' b n (II n s i)->K (vw (decide (0<=i) && decide (i<n) && !s i.toNat)) w'):I vp 178 #[vr (vz ⟨b,0,v6⟩),vq vy i] w K:=by
 obtain⟨cs,c1,c2,c3,c4,c5⟩:=h.blk;have hn:=h.rng;refine F178.sh (Wx h ?_);unfold II at hk;by_cases hi:0<=i/\i<n
 ·rw[vn hi,o8 hi.1,o8 hi.2]at hk;rw[o8 hi.1,o8 hi.2];simp only[zv,Bool.and_self,Bool.true_and]at hk ⊢;refine Mk h ?_;have hb:EY n s i=s i.toNat:=by simp[EY,hi.1,hi.2]
  rw[hb];cases hs:s i.toNat with
  | true=>
   simp only[Ai];have:=hk w (Fr.refl _ _) (by rw[Q8 hs];exact h);rw[hs]at this;simpa using this
  | false=>
   simp only[Ae];refine F178.k3.to (A8 (λ_=>True) λw1 hf1 _=>⟨trivial,?_⟩);have h1:=h.keep hf1 (by simp);have d1:=hf1.at_ c1 (by simp);simp only[zv];refine⟨_,λw' _=>DT _ _ i 64 (by decide),?_⟩;rw[xA hi.1,BN (by omega)];refine AU (by omega) (by omega) ⟨_,λw' _=>FL _ _ i 64 (by decide),?_⟩;rw[xB hi.1];obtain⟨j,hj⟩:=xQ (show 0<=i % 64 by omega);obtain⟨i,rfl⟩:=xQ hi.1;rw[hj]
   obtain⟨x,x1,x2,x3⟩:=c5 (i / 64) (by omega);have ek:((i:Int) / 64).toNat*1=i / 64:=by omega
   have hj64:j<64:=by omega
   have hp:1*2 ^ j % 18446744073709551616=2 ^ j:=by have:2 ^ j<2 ^ 64:=yQ (by decide) hj64;rw[Nat.one_mul,Nat.mod_eq_of_lt this]
   have hp64:2 ^ j<2 ^ 64:=yQ (by decide) hj64;refine⟨_,λw' _=>Kf _ _ 1 j hj64,⟨Ac (v:=vq .u64 (x:Int)) d1 (by rw[ek];exact x1) ⟨trivial,?_⟩,trivial⟩⟩;rw[hp];refine⟨_,λw' _=>UT _ _ x (2 ^ j) x2 hp64,AU (by omega) (by omega) ⟨?_,trivial⟩⟩;refine AM d1 rfl rfl (by omega) λw2 hu=>⟨trivial,?_⟩;rw[ek]at hu;have h2:CZ w2 b n (CG s i v7):=by
    refine h1.word d1 hi.2 (Nat.or_lt_two_pow x2 hp64) (λt ht=>?_) hu;rw[Nat.testBit_or,x3 t ht,Nat.testBit_two_pow];unfold CG;by_cases e:64*(i / 64)+t=i
    ·rw[vn e,o8 (by omega),Bool.or_true]
    ·rw[vm e,m8 (by omega),Bool.or_false]
   rw[zE]at hk hs;have:=hk w2 (hf1.w.trans hu.fr) h2;rw[hs]at this;exact this
 ·have e:(decide (0<=i) && decide (i<n))=v8:=by rw[Bool.and_eq_false_iff];simp only[xU];omega
  rw[vm hi,e]at hk;rw[e];simp only[zv,Bool.false_and]at hk ⊢;exact hk w (Fr.refl _ _) h
def M2{i:Int}(h:CZ w b n s)(hk:∀w',Fr [b] w w'->CZ w' b n (JR n s i)->K (vw (EY n s i)) w'):I vp 337 #[vr (vz ⟨b,0,v6⟩),vq vy i] w K:=by
 obtain⟨cs,c1,c2,c3,c4,c5⟩:=h.blk;have hn:=h.rng;refine F337.sh (Mk h ?_);unfold JR at hk;cases hb:EY n s i with
 | false=>
  rw[hb]at hk;simp only[zv];exact hk w (Fr.refl _ _) h
 | true=>
  rw[hb]at hk;have hi:0<=i/\i<n:=by simp[EY]at hb;exact hb.1
  simp only[zv];refine F337.k3.to (A8 (λ_=>True) λw1 hf1 _=>⟨trivial,?_⟩);have h1:=h.keep hf1 (by simp);have d1:=hf1.at_ c1 (by simp);simp only[zv];refine⟨_,λw' _=>DT _ _ i 64 (by decide),?_⟩;rw[xA hi.1,BN (by omega)];refine AU (by omega) (by omega) ⟨_,λw' _=>FL _ _ i 64 (by decide),?_⟩;rw[xB hi.1];obtain⟨j,hj⟩:=xQ (show 0<=i % 64 by omega);obtain⟨i,rfl⟩:=xQ hi.1;rw[hj]
  obtain⟨x,x1,x2,x3⟩:=c5 (i / 64) (by omega);have ek:((i:Int) / 64).toNat*1=i / 64:=by omega
  have hj64:j<64:=by omega
  have hp:1*2 ^ j % 18446744073709551616=2 ^ j:=by have:2 ^ j<2 ^ 64:=yQ (by decide) hj64;rw[Nat.one_mul,Nat.mod_eq_of_lt this]
  have hp64:2 ^ j<2 ^ 64:=yQ (by decide) hj64;refine⟨_,λw' _=>Kf _ _ 1 j hj64,⟨Ac (v:=vq .u64 (x:Int)) d1 (by rw[ek];exact x1) ⟨trivial,?_⟩,trivial⟩⟩;rw[hp];obtain⟨r,r1,r2,r3⟩:=NC (P:=vp) (t:=210) (.tmp 15) (.tmp 18) x (2 ^ j) x2 hp64;refine⟨_,λw' _=>r3 w',AU (by omega) (by omega) ⟨?_,trivial⟩⟩;refine AM d1 rfl rfl (by omega) λw2 hu=>⟨trivial,?_⟩;rw[ek]at hu
  have h2:CZ w2 b n (CG s i v8):=by
   refine h1.word d1 hi.2 r1 (λt ht=>?_) hu;rw[r2 t ht,x3 t ht,Nat.testBit_two_pow];unfold CG;by_cases e:64*(i / 64)+t=i
   ·rw[vn e,o8 (by omega)];simp
   ·rw[vm e,m8 (by omega)];simp
  simp only[vj,zE]at hk;exact hk w2 (hf1.w.trans hu.fr) h2
end
section
variable{K:VK}{w:wd}{b:Nat}{n:Int}{s:Bs}
def Qa{i:Nat}(h:CZ w b n s)(hT:F0 w)(h1:∀j:Nat,i<=j->s j=v7->(∀t,i<=t->t<j->s t=v8)->K (vq vy (j:Int)) w)(h2:(∀t,i<=t->s t=v8)->K (vq vy (-1)) w):
  ∀(d k x:Nat),k+d=31->i<=64*(k+1)->x<2 ^ 64->(∀j,j<64->x.testBit j=(s (64*k+j) && decide (i<=64*k+j)))->(∀t,i<=t->t<64*k->s t=v8)->
   F258.l7 K (vr (vz ⟨b,0,v6⟩)) (vq .u64 (x:Int)) (vq vy (k:Int)) w:=by
 obtain⟨cs,c1,c2,c3,c4,c5⟩:=h.blk;have hn:=h.rng;have out:∀(k x:Nat),k<=31->x<2 ^ 64->(∀j,j<64->x.testBit j=(s (64*k+j) && decide (i<=64*k+j)))->(∀t,i<=t->t<64*k->s t=v8)->
   (x=0->(∀t,i<=t->t<64*(k+1)->s t=v8)->F258.k9 K (vr (vz ⟨b,0,v6⟩)) (vq vy (k:Int)) w)->F258.l7 K (vr (vz ⟨b,0,v6⟩)) (vq .u64 (x:Int)) (vq vy (k:Int)) w:=by
  intro k x hk hx hb hlo hnext;refine F258.l7.to ?_;by_cases e:x=0
  ·subst e;simp only[zv,show (((0:Nat):Int)≠0)=False by simp];refine hnext rfl λt t1 t2=>?_;by_cases ht:t<64*k
   ·exact hlo t t1 ht
   ·have:=hb (t-64*k) (by omega);rw[show 64*k+(t-64*k)=t by omega,Nat.zero_testBit,o8 t1,Bool.and_true]at this;exact this.symm
  ·obtain⟨z1,z2,z3⟩:=SC e hx;simp only[zv,show ((x:Int)≠0)=True by simp;exact e];rw[BN (n:=(k:Int)*64) (by omega)];refine XB hT hx ?_;simp only[AC];generalize Lib.ctz 64 x=c at *;rw[BN (n:=(k:Int)*64+c) (by omega),show (k:Int)*64+c=((64*k+c:Nat):Int) by omega];have hc:=hb c z1;rw[z2]at hc;have hc':=hc.symm;rw[zS,zP]at hc';refine h1 _ hc'.2 hc'.1 λt t1 t2=>?_;by_cases ht:t<64*k
   ·exact hlo t t1 ht
   ·have:=hb (t-64*k) (by omega);rw[show 64*k+(t-64*k)=t by omega,z3 _ (by omega),o8 t1,Bool.and_true]at this;exact this.symm
 intro d;induction d with
 | zero=>
  intro k x hk hik hx hb hlo;refine out k x (by omega) hx hb hlo λ_ hall=>?_;refine F258.k9.to ?_;simp only[zv];rw[BN (n:=(k:Int)+1) (by omega)];simp only[zv,vl,show ((k:Int)+1=32) by omega];refine h2 λt ht=>?_;by_cases c:t<64*(k+1)
  ·exact hall t ht c
  ·apply xF;intro hc;have:=h.sup t (by simpa using hc);omega
 | succ d ih=>
  intro k x hk hik hx hb hlo;refine out k x (by omega) hx hb hlo λ_ hall=>?_;refine F258.k9.to ?_;simp only[zv];rw[BN (n:=(k:Int)+1) (by omega)];simp only[zv,show ¬((k:Int)+1=32) by omega];refine F258.k11.to ?_;simp only[zv];rw[BN (n:=(k:Int)+1) (by omega)];obtain⟨y,y1,y2,y3⟩:=c5 (k+1) (by omega)
  refine AU (by omega) (by omega) (Ac (v:=vq .u64 (y:Int)) c1 (by rw[vb,show ((k:Int)+1).toNat=k+1 by omega];exact y1) ?_);refine F258.k6.to ?_;simp only[AC];rw[BN (n:=(k:Int)+1) (by omega),show (k:Int)+1=((k+1:Nat):Int) by omega];refine ih (k+1) y (by omega) (by omega) y2 (λj hj=>?_) hall;rw[y3 j hj];rw[o8 (by omega),Bool.and_true]
def PD(x j t:Nat)(hj:j<64)(ht:t<64)(hx:x<2 ^ 64):(x / 2 ^ j*2 ^ j % 18446744073709551616).testBit t=(x.testBit t && decide (j<=t)):=by
 have e:x / 2 ^ j*2 ^ j<18446744073709551616:=Nat.lt_of_le_of_lt (Nat.div_mul_le_self _ _) hx;rw[Nat.mod_eq_of_lt e,Nat.testBit_mul_two_pow,Nat.testBit_div_two_pow];by_cases c:j<=t
 ·rw[show t-j+j=t by omega];simp[c]
 ·simp[c]
def PZ{i:Nat}(h:CZ w b n s)(hT:F0 w)(h1:∀j:Nat,i<=j->s j=v7->(∀t,i<=t->t<j->s t=v8)->K (vq vy (j:Int)) w)(h2:(∀t,i<=t->s t=v8)->K (vq vy (-1)) w):
  I vp 258 #[vr (vz ⟨b,0,v6⟩),vq vy (i:Int)] w K:=by
 obtain⟨cs,c1,c2,c3,c4,c5⟩:=h.blk;have hn:=h.rng;refine F258.sh ⟨_,Cj _ _ _ Tryz.underlying177,?_⟩;simp only[zv];refine Ac (v:=vw v7) c1 c3 ?_;simp only[zv];refine Ac (v:=vq vy n) c1 c4 ?_;by_cases c:(i:Int)≥n
 ·simp only[zv,c];refine h2 λt ht=>?_;apply xF;intro hc;have:=h.sup t (by simpa using hc);omega
 simp only[zv,c];refine F258.k3.to (A7 (JZ _ _ vy (i:Int) 0) ?_);rw[show max (i:Int) 0=(i:Int) by omega];refine⟨_,DT _ _ (i:Int) 64 (by decide),?_⟩;rw[xA (by omega),BN (by omega),show (i:Int) / 64=((i / 64:Nat):Int) by omega];simp only[zv];obtain⟨x,x1,x2,x3⟩:=c5 (i / 64) (by omega);refine AU (by omega) (by omega) (Ac (v:=vq .u64 (x:Int)) c1 (by rw[vb,zE];exact x1) ⟨_,FL _ _ (i:Int) 64 (by decide),?_⟩)
 rw[xB (by omega),show (i:Int) % 64=((i % 64:Nat):Int) by omega];refine⟨_,Ns _ _ x (i % 64) (by omega),⟨_,FL _ _ (i:Int) 64 (by decide),?_⟩⟩;rw[xB (by omega),show (i:Int) % 64=((i % 64:Nat):Int) by omega];refine⟨_,Kf _ _ (x / 2 ^ (i % 64)) (i % 64) (by omega),⟨_,DT _ _ (i:Int) 64 (by decide),?_⟩⟩;rw[xA (by omega),BN (by omega),show (i:Int) / 64=((i / 64:Nat):Int) by omega]
 refine Qa h hT h1 h2 (31-i / 64) (i / 64) _ (by omega) (by omega) (by have:=Nat.mod_lt (x / 2 ^ (i % 64)*2 ^ (i % 64)) (show 18446744073709551616>0 by decide);omega) (λj hj=>?_) λt t1 t2=>by omega
 rw[PD x (i % 64) j (by omega) hj x2,x3 j hj];congr 1;exact d9.2 (by omega)
def J4{s:Bs}{c j:Nat}(hcj:c<=j)(hs:s j=v7)(hno:∀t,c<=t->t<j->s t=v8):(List.range (j+1)).filter s=(List.range c).filter s++[j]:=by
 have key:∀d,c+d<=j->(List.range (c+d)).filter s=(List.range c).filter s:=λd=>by
  induction d with
  | zero=>intro _;rfl
  | succ d ih=>
   intro hd;rw[show c+(d+1)=c+d+1 by omega,j7,yU,ih (by omega)];simp[hno (c+d) (by omega) (by omega)]
 have:=key (j-c) (by omega);rw[show c+(j-c)=j by omega]at this;rw[j7,yU,this];simp[hs]
def He{s:Bs}{c m:Nat}(hcm:c<=m)(hno:∀t,c<=t->s t=v8):(List.range m).filter s=(List.range c).filter s:=by
 have key:∀d,(List.range (c+d)).filter s=(List.range c).filter s:=λd=>by
  induction d with
  | zero=>rfl
  | succ d ih=>
   rw[show c+(d+1)=c+d+1 by omega,j7,yU,ih];simp[hno (c+d) (by omega)]
 have:=key (m-c)
 rwa [show c+(m-c)=m by omega]at this
def UA{n:Int}{s:Bs}{c:Nat}(h0:0<=n)(hsup:∀i:Nat,s i=v7->(i:Int)<n)(hno:∀t,c<=t->s t=v8):HY n s=((List.range c).filter s).map Int.ofNat:=by
 unfold HY;congr 1;by_cases h:c<=n.toNat
 ·exact He h hno
 ·exact (He (by omega) λt ht=>by
   apply xF;intro hc;have:=hsup t (by simpa using hc);omega).symm
def Ss{n:Int}{s:Bs}(c:Nat):(((List.range c).filter s).map Int.ofNat).length<=c:=by
 rw[i6];have:=yE s (List.range c)
 rwa [zJ]at this
def RO{W:wd}(h:CZ W b n s)(hT:F0 W)(hk:∀v w',Fr [] W w'->Cc W v->BO w' v 3 1 (Ca (HY n s))->K v w'):
  ∀(d c:Nat) (w:wd) (v:wc),2049<=c+d->Fr [] W w->Cc W v->BO w v 3 1 (Ca (((List.range c).filter s).map Int.ofNat))->
   (∀j:Nat,c<=j->s j=v7->(∀t,c<=t->t<j->s t=v8)->F202.l3 K (vr (vz ⟨b,0,v6⟩)) v (vq vy (j:Int)) w)/\
   ((∀t,c<=t->s t=v8)->F202.l3 K (vr (vz ⟨b,0,v6⟩)) v (vq vy (-1)) w):=by
 have hn:=h.rng;have fin:∀(c:Nat) (w:wd) (v:wc),Fr [] W w->Cc W v->BO w v 3 1 (Ca (((List.range c).filter s).map Int.ofNat))->(∀t,c<=t->s t=v8)->F202.l3 K (vr (vz ⟨b,0,v6⟩)) v (vq vy (-1)) w:=by intro c w v hf hnv ho hno;refine F202.l3.to ?_;simp only[zv,show ¬((-1:Int)≥0) by omega];refine F202.k6.to (hk v w hf hnv ?_);rw[UA hn.1 h.sup hno];exact ho
 intro d;induction d with
 | zero=>
  intro c w v hd hf hnv ho;exact⟨λj hj hs _=>by have:=h.sup j hs;omega,fin c w v hf hnv ho⟩
 | succ d ih=>
  intro c w v hd hf hnv ho;refine⟨λj hj hs hno=>?_,fin c w v hf hnv ho⟩;have hjn:=h.sup j hs;have hl:=Ss (n:=n) (s:=s) c;refine F202.l3.to ?_;simp only[zv,show ((j:Int)≥0) by omega];refine F202.k5.to (B3 ho (by omega) λv' w1 ho1 hf1 hg1=>?_);have f1:Fr [] W w1:=hf.then hf1 λz hz=>wh (hnv.blk z hz);have n1:=Ln hnv hf.size hg1
  have e:((List.range c).filter s).map Int.ofNat++[(j:Int)]=((List.range (j+1)).filter s).map Int.ofNat:=by rw[J4 hj hs hno,i9];rfl
  rw[e]at ho1;refine F202.k4.to ?_;simp only[AC];rw[BN (n:=(j:Int)+1) (by omega),show (j:Int)+1=((j+1:Nat):Int) by omega];obtain⟨a1,a2⟩:=ih (j+1) w1 v' (by omega) f1 n1 ho1;exact PZ (h.keep f1 (by simp)) (hT.keep f1 (by simp)) a1 a2
def Vl(h:CZ w b n s)(hT:F0 w)(hk:∀v w',Fr [] w w'->Cc w v->BO w' v 3 1 (Ca (HY n s))->K v w'):I vp 202 #[vr (vz ⟨b,0,v6⟩)] w K:=by obtain⟨a1,a2⟩:=RO h hT hk 2049 0 w _ (by omega) (Fr.refl _ _) (Cc.nil _) (by simpa[Ca] using BO.nil _ _ _);exact F202.sh (PZ h hT a1 a2)
def Lz(n:Int):Array wc := #[vw v7,vq vy n,vq .u64 0,vq .u64 0,vq .u64 0,vq .u64 0,vq .u64 0,vq .u64 0,vq .u64 0,vq .u64 0,vq .u64 0,vq .u64 0,vq .u64 0,vq .u64 0,vq .u64 0,vq .u64 0,vq .u64 0,vq .u64 0,vq .u64 0,vq .u64 0,vq .u64 0,vq .u64 0,vq .u64 0,vq .u64 0,vq .u64 0,vq .u64 0,vq .u64 0,vq .u64 0,vq .u64 0,vq .u64 0,vq .u64 0,vq .u64 0,vq .u64 0,vq .u64 0]
def Xg(n:Int):(Instr.build 255 #[(0,vw v7),(1,vq vy n)]).run vp w=.ok (.agg (Lz n)) w:=by kernel_rfl
def NO(n:Int):∀k,k<32->(Lz n)[2+k]?=vz (vq .u64 0)
 | 0,_ | 1,_ | 2,_ | 3,_ | 4,_ | 5,_ | 6,_ | 7,_ | 8,_ | 9,_ | 10,_ | 11,_ | 12,_ | 13,_ | 14,_ | 15,_ | 16,_ | 17,_ | 18,_ | 19,_ | 20,_ | 21,_ | 22,_ | 23,_ | 24,_ | 25,_ | 26,_ | 27,_ | 28,_ | 29,_ | 30,_ | 31,_=>rfl
 | k+32,h=>by omega
def PH{n:Int}(h0:0<=n)(h1:n<=2048)(hk:∀b w',Fr [] w w'->b=w.heap.size->w'.heap.size=w.heap.size+1->CZ w' b n (λ_=>v8)->K (vr (vz ⟨b,0,v6⟩)) w'):I vp 116 #[vq vy n] w K:=by refine F116.sh (Ex ?_);rw[vm (by omega),vm (by omega)];refine A7 (Xg n) (Ay λb w1 hn=>hk b w1 hn.fr hn.is hn.sz ⟨⟨Lz n,hn.at_,rfl,rfl,rfl,λk hk=>⟨0,NO n k hk,by decide,λj _=>by simp⟩⟩,⟨h0,h1⟩,λi hi=>by cases hi⟩)
end
end
section
open Go.Proofs
noncomputable section
variable{K:VK}{w:wd}{x0 x1 y0 y1 y2 y3 y4 y5 y6 y10 y11 y13 y14 y4294967291:wc}
def F170.sh(h:(I vp 66 #[x0,(vq vy 0),(vq vy 64)] w λa b=>Am vp (Instr.makeSlice 54 a a) b λc d=>Am vp (Instr.build 292 #[(0,(vw v7)),(1,c)]) d λf g=>Aw (wj (wc.cells f) 292) g λi j=>K i j)):I vp 170 #[x0] w K:=BK (A:=A0) (args:=[x0]) (qq h)
namespace F171
def ann:=a1 [(3,[0])]
def code:=cd f171
def BL:=tp f171
variable(K:VK)(y0:wc)(w:wd)
@[irreducible]def k3:=nk ann 10 [(0,y0)] w [1,1] code (BL K)
end F171
def F171.k3.to(h:(Ag y0 w λa b=>Ab 1 a b λc d=>Ad c d λf g=>I vp 240 #[f] g λi j=>K i j)):F171.k3 K y0 w:=qq h
def F171.sh(h:(AG vp .eql 234 (.tmp 3) (.const (vr v6)) x0 (vr v6) w λa b=>Af a (K (vt v6 0 0) b) (F171.k3 K x0 b))):I vp 171 #[x0] w K:=BK (A:=F171.ann) (args:=[x0]) (qq h)
namespace F176
def ann:=a1 [(3,[2,3,4,5]),(14,[4,5,4294967291])]
def code:=cd f176
def BL:=tp f176
variable(K:VK)(y2 y3 y4 y5 y4294967291:wc)(w:wd)
def as4:Code:=Wd (Fh [1,1,0,1,0] code)
def bd4:Code:=Wk (Fh [1,1,0,1,0] code)
def k3:=nk ann 38 [(2,y2),(3,y3),(4,y4),(5,y5)] w [1,1] code (BL K)
def k14:=nk ann 38 [(4,y4),(5,y5),(4294967291,y4294967291)] w [1,1,1] code (BL K)
attribute [irreducible] k3 k14
end F176
def F176.k3.to(h:(Ad y2 w λa b=>Bn vp 38 (.func (.func 242) #[a] #[]) #[13,14] F176.as4 F176.bd4 [(12,(.func (.func 242) #[a] #[])),(11,a),(2,y2),(3,y3),(4,y4),(5,y5)] b λD2 j c=>B4 j (F176.k14 K y4 y5 (vq vy (D2:Int)) c) (Bl (vq vy (D2:Int)) c λd=>Ad y4 d λr4 _=>Ad y5 d λr5 _=>K (vu #[r4,r5]) d) (λid=>cond (Nat.beq id 0) (F176.k14 K y4 y5 (vq vy (D2:Int)) c) (False)))):F176.k3 K y2 y3 y4 y5 w:=qq h
def F176.k14.to(h:(Aj 1 y4 (vq vy 0) w λa=>Aj 1 y5 (vw v8) a λb=>Bl y4294967291 b λc=>Ad y4 c λr4 _=>Ad y5 c λr5 _=>K (vu #[r4,r5]) c)):F176.k14 K y4 y5 y4294967291 w:=qq h
def F176.sh(h:(Aw (wj (wc.cells x0) 234) w λa b=>Aw (wj (wc.cells x1) 3) b λc d=>Aw (wj #[vq vy 0] 3) d λf g=>Aw (wj #[vw v8] 4) g λi j=>Ad c j λk m=>U .lss k (vq vy 1) m λo p=>Af o (Aj 1 f (vq vy 0) p λq=>Aj 1 i (vw v8) q λr=>Ad f r λr9 _=>Ad i r λr10 _=>K (vu #[r9,r10]) r) (F176.k3 K a c f i p))):I vp 176 #[x0,x1] w K:=BK (A:=F176.ann) (args:=[x0,x1]) (qq h)
namespace R176_4
def ann(l:Nat):Cd:=⟨[(7,[2,3,4,5,6]),(9,[2,4,5,6,18,19]),(11,[2,4,5,6,18,19]),(12,[2,4,5,6])],[(8,[2,4,5,6,18,19])],[],[],vz l⟩
noncomputable def BL(l:Nat)(K:VK):QE:=Nq l K
noncomputable def k7(l:Nat)(K:VK)(y2 y3 y4 y5 y6:wc)(w:wd):Prop:=FJ (ann l) vp 38 (λc Q=>Di (ann l) vp 38 c Q [(2,y2),(3,y3),(4,y4),(5,y5),(6,y6)] w) [0,1] F176.bd4 (BL l K)
attribute [irreducible] k7
noncomputable def k12(l:Nat)(K:VK)(y2 y4 y5 y6:wc)(w:wd):Prop:=FJ (ann l) vp 38 (λc Q=>Di (ann l) vp 38 c Q [(2,y2),(4,y4),(5,y5),(6,y6)] w) [0,1,1] F176.bd4 (BL l K)
attribute [irreducible] k12
noncomputable def l8(l:Nat)(K:VK)(y2 y4 y5 y6 y18 y19:wc)(w:wd):Prop:=FJ (ann l) vp 38 (MW (ann l) vp 38 [(2,y2),(4,y4),(5,y5),(6,y6),(18,y18),(19,y19)] w) [0,1,0,1,0] F176.bd4 (BL l K)
attribute [irreducible] l8
noncomputable def k9(l:Nat)(K:VK)(y2 y4 y5 y6 y18 y19:wc)(w:wd):Prop:=FJ (ann l) vp 38 (λc Q=>Di (ann l) vp 38 c Q [(2,y2),(4,y4),(5,y5),(6,y6),(18,y18),(19,y19)] w) [0,1,0,1,0,0,1,1] F176.bd4 (BL l K)
attribute [irreducible] k9
noncomputable def k11(l:Nat)(K:VK)(y2 y4 y5 y6 y18 y19:wc)(w:wd):Prop:=FJ (ann l) vp 38 (λc Q=>Di (ann l) vp 38 c Q [(2,y2),(4,y4),(5,y5),(6,y6),(18,y18),(19,y19)] w) [0,1,0,1,0,0,1,1,1] F176.bd4 (BL l K)
attribute [irreducible] k11
end R176_4
def R176_4.k7.to{l:Nat}{K:VK}{y2 y3 y4 y5 y6:wc}{w:wd}(h:(Ad y3 w λx18_1 w1=>R176_4.l8 l K y2 y4 y5 y6 x18_1 (vq vy 0) w1)):R176_4.k7 l K y2 y3 y4 y5 y6 w:=Eq.mpr (by kernel_rfl) h
def R176_4.k12.to{l:Nat}{K:VK}{y2 y4 y5 y6:wc}{w:wd}(h:(Ad y2 w λx31_1 w1=>Ag x31_1 w1 λx32_2 w2=>Ab 1 x32_2 w2 λx33_3 w3=>Ad x33_3 w3 λx34_4 w4=>A6 1 x34_4 y6 w4 λx36_5 w5=>Aj 1 x36_5 (vq vy 5) w5 λw6=>Aj 1 y4 y6 w6 λw7=>Aj 1 y5 (vw v7) w7 λw8=>Bx l (vz .ret) v8 (.done) w8 K)):R176_4.k12 l K y2 y4 y5 y6 w:=Eq.mpr (by kernel_rfl) h
def R176_4.l8.to{l:Nat}{K:VK}{y2 y4 y5 y6 y18 y19:wc}{w:wd}(h:(U .lss y19 y18 w λx20_1 w1=>Af x20_1 (R176_4.k9 l K y2 y4 y5 y6 y18 y19 w1) (R176_4.k12 l K y2 y4 y5 y6 w1))):R176_4.l8 l K y2 y4 y5 y6 y18 y19 w:=by unfold R176_4.l8;exact BW (Eq.mpr (by kernel_rfl) h)
def R176_4.k9.to{l:Nat}{K:VK}{y2 y4 y5 y6 y18 y19:wc}{w:wd}(h:(Ad y2 w λx22_1 w1=>Ag x22_1 w1 λx23_2 w2=>Ab 1 x23_2 w2 λx24_3 w3=>Ad x24_3 w3 λx25_4 w4=>U .add y6 y19 w4 λx28_5 w5=>A6 1 x25_4 x28_5 w5 λx29_6 w6=>Aj 1 x29_6 (vq vy 6) w6 λw7=>R176_4.k11 l K y2 y4 y5 y6 y18 y19 w7)):R176_4.k9 l K y2 y4 y5 y6 y18 y19 w:=Eq.mpr (by kernel_rfl) h
def R176_4.k11.to{l:Nat}{K:VK}{y2 y4 y5 y6 y18 y19:wc}{w:wd}(h:(U .add y19 (vq vy 1) w λx30_1 w1=>R176_4.l8 l K y2 y4 y5 y6 y18 x30_1 w1)):R176_4.k11 l K y2 y4 y5 y6 y18 y19 w:=Eq.mpr (by kernel_rfl) h
def R176_4.yield{l:Nat}{r:Loop}{K:VK}{y2 y3 y4 y5 a13 a14:wc}{w:wd}(hr:w.heap[l]?=vz (.loop r))(hn:r.tmps.size=38)(hp:r.params = #[13,14])(ha:r.assign=F176.as4)(hb:r.body=F176.bd4)(he:∀t v,GC [(2,y2),(3,y3),(4,y4),(5,y5)] t=vz v->r.tmps[t]?=vz v)(h:(B1 l w λw1=>Ad y3 w1 λx16_2 w2=>U .lss a14 x16_2 w2 λx17_3 w3=>Af x17_3 (Bx l v6 v7 (.ready) w3 K) (R176_4.k7 l K y2 y3 y4 y5 a13 w3))):Bp vp l #[a13,a14] w K:=
 N7 (A:=R176_4.ann l) (env:=[(2,y2),(3,y3),(4,y4),(5,y5)]) rfl hr hn (by rw[hp];rfl) he rfl (by rw[hp];decide) (by rw[ha,hb,hp];exact Eq.mpr (by kernel_rfl) h)
namespace F241
def ann:=a1 [(5,[3,4294967291])]
def code:=cd f241
def BL:=tp f241
variable(K:VK)(y3 y4294967291:wc)(w:wd)
def as3:Code:=Wd (Fh [1,1,0,1,0] code)
def bd3:Code:=Wk (Fh [1,1,0,1,0] code)
@[irreducible]def k5:=nk ann 14 [(3,y3),(4294967291,y4294967291)] w [1,1,1] code (BL K)
end F241
def F241.k5.to(h:(Ad y3 w λa b=>Bl y4294967291 b λc=>K a c)):F241.k5 K y3 y4294967291 w:=qq h
def F241.sh(h:(Aw (wj #[vq vy 0] 3) w λa b=>Aj 1 a (vq vy 0) b λc=>Bn vp 14 (.func (.func 242) #[x0] #[]) #[8,9] F241.as3 F241.bd3 [(7,(.func (.func 242) #[x0] #[])),(6,x0),(3,a),(2,(vq vy 0)),(0,x0)] c λD3 j d=>B4 j (F241.k5 K a (vq vy (D3:Int)) d) (Bl (vq vy (D3:Int)) d λf=>K (vq vy 0) f) (λid=>cond (Nat.beq id 0) (F241.k5 K a (vq vy (D3:Int)) d) (False)))):I vp 241 #[x0] w K:=BK (A:=F241.ann) (args:=[x0]) (qq h)
namespace R241_3
def ann(l:Nat):Cd:=⟨[],[],[],[],vz l⟩
noncomputable def BL(l:Nat)(K:VK):QE:=Nq l K
end R241_3
def R241_3.yield{l:Nat}{r:Loop}{K:VK}{y3 a8 a9:wc}{w:wd}(hr:w.heap[l]?=vz (.loop r))(hn:r.tmps.size=14)(hp:r.params = #[8,9])(ha:r.assign=F241.as3)(hb:r.body=F241.bd3)(he:∀t v,GC [(3,y3)] t=vz v->r.tmps[t]?=vz v)(h:(B1 l w λw1=>Ad y3 w1 λx10_2 w2=>U .add x10_2 a9 w2 λx12_3 w3=>Aj 1 y3 x12_3 w3 λw4=>Bx l v6 v7 (.ready) w4 K)):Bp vp l #[a8,a9] w K:=
 N7 (A:=R241_3.ann l) (env:=[(3,y3)]) rfl hr hn (by rw[hp];rfl) he rfl (by rw[hp];decide) (by rw[ha,hb,hp];exact Eq.mpr (by kernel_rfl) h)
namespace F242
def ann:Cd:=⟨[(1,[0,1]),(4,[0,1,4,13,14]),(7,[0,1,4,5,13,14]),(8,[0,1,13,14]),(9,[0,1,4,13,14])],[(3,[0,1,4,13,14])],[],[],v6⟩
def code:=cd f242
def BL:=tp f242
variable(K:VK)(y0 y1 y4 y5 y13 y14:wc)(w:wd)
def k1:=nk ann 35 [(0,y0),(1,y1)] w [1] code (BL K)
def l3:=nl ann 35 [(0,y0),(1,y1),(4,y4),(13,y13),(14,y14)] w [1,1,1,0] code (BL K)
def k4:=nk ann 35 [(0,y0),(1,y1),(4,y4),(13,y13),(14,y14)] w [1,1,1,0,0,1,1] code (BL K)
def k9:=nk ann 35 [(0,y0),(1,y1),(4,y4),(13,y13),(14,y14)] w [1,1,1,0,0,1,1,1] code (BL K)
def k7:=nk ann 35 [(0,y0),(1,y1),(4,y4),(5,y5),(13,y13),(14,y14)] w [1,1,1,0,0,1,1,0,0,1,1] code (BL K)
def k8:=nk ann 35 [(0,y0),(1,y1),(13,y13),(14,y14)] w [1,1,1,0,0,1,1,0,0,1,1,1] code (BL K)
attribute [irreducible] k1 l3 k4 k9 k7 k8
end F242
def F242.k1.to(h:(Ag y0 w λa b=>Ab 1 a b λc d=>Ad c d λf g=>AH f g λi j=>U .add i (vq vy 1) j λk m=>F242.l3 K y0 y1 (vq vy 0) k (vq vy 0) m)):F242.k1 K y0 y1 w:=qq h
def F242.l3.to(h:(U .lss y14 y13 w λa b=>Af a (F242.k4 K y0 y1 y4 y13 y14 b) (K (vu #[]) b))):F242.l3 K y0 y1 y4 y13 y14 w:=by unfold F242.l3 nl;exact BW (qq h)
def F242.k4.to(h:(I vp 283 #[y0,y14] w λa b=>U .eql a (vq vy 0) b λc d=>Af c (U .add y4 (vq vy 1) d λf g=>F242.k9 K y0 y1 f y13 y14 g) (F242.k7 K y0 y1 y4 y14 y13 y14 d))):F242.k4 K y0 y1 y4 y13 y14 w:=qq h
def F242.k9.to(h:(U .add y14 (vq vy 1) w λa b=>F242.l3 K y0 y1 y4 y13 a b)):F242.k9 K y0 y1 y4 y13 y14 w:=qq h
def F242.k7.to(h:(U .gtr y4 (vq vy 0) w λa b=>Aa v7 a (λK=>K y1 b) b λc d=>Aa v7 a (λK=>K y5 d) d λf g=>Aa v7 a (λK=>K y4 g) g λi j=>Aa v7 a (U .sub f i j) j λk m=>Aa v7 a (λK=>K y4 m) m λo p=>Aa v7 a (λK=>DK vp c [k,o] p K) p λq r=>Aa v7 a (AE q r) r λs t=>Ar (vz a) (vz s) (vz (vw v8)) t λu v=>Af u (K (vu #[]) v) (F242.k8 K y0 y1 y13 y14 v))):F242.k7 K y0 y1 y4 y5 y13 y14 w:=qq h
def F242.k8.to(h:(F242.k9 K y0 y1 (vq vy 0) y13 y14 w)):F242.k8 K y0 y1 y13 y14 w:=qq h
def F242.sh(h:(AG vp .eql 234 (.tmp 6) (.const (vr v6)) x0 (vr v6) w λa b=>Af a (K (vu #[]) b) (F242.k1 K x0 x1 b))):I vp 242 #[x0,x1] w K:=BK (A:=F242.ann) (args:=[x0,x1]) (qq h)
namespace F252
def ann:=a1 [(3,[0,1]),(6,[0,1,6])]
def code:=cd f252
def BL:=tp f252
variable(K:VK)(y0 y1 y6:wc)(w:wd)
def k3:=nk ann 29 [(0,y0),(1,y1)] w [1,1] code (BL K)
def k6:=nk ann 29 [(0,y0),(1,y1),(6,y6)] w [1,1,1,1] code (BL K)
attribute [irreducible] k3 k6
end F252
def F252.k3.to(h:(Ag y0 w λa b=>Ab 1 a b λc d=>Ad c d λf g=>I vp 125 #[f,(vq vy 0)] g λi j=>U .lss i (vq vy 0) j λk m=>Af k (K (vu #[(vq vy 0),(vw v8)]) m) (F252.k6 K y0 y1 i m))):F252.k3 K y0 y1 w:=qq h
def F252.k6.to(h:(Ag y0 w λa b=>Ab 1 a b λc d=>Ad c d λf g=>A6 1 f y6 g λi j=>Aj 1 i y1 j λk=>K (vu #[y6,(vw v7)]) k)):F252.k6 K y0 y1 y6 w:=qq h
def F252.sh(h:(AG vp .eql 234 (.tmp 7) (.const (vr v6)) x0 (vr v6) w λa b=>Aa v8 a (λK=>K x1 b) b λc d=>Aa v8 a (λK=>I vp 175 #[c] d K) d λf g=>Aa v8 a (U .eql f (vq vy 0) g) g λi j=>Ar (vz a) (vz (vw v7)) (vz i) j λk m=>Af k (K (vu #[(vq vy 0),(vw v8)]) m) (F252.k3 K x0 x1 m))):I vp 252 #[x0,x1] w K:=BK (A:=F252.ann) (args:=[x0,x1]) (qq h)
namespace F264
def ann:Cd:=⟨[(4,[0,1,5,10,11]),(6,[0,1,5,10,11]),(7,[5])],[(3,[0,1,5,10,11])],[],[],v6⟩
def code:=cd f264
def BL:=tp f264
variable(K:VK)(y0 y1 y5 y10 y11:wc)(w:wd)
def k7:=nk ann 24 [(5,y5)] w [1,1,1] code (BL K)
def l3:=nl ann 24 [(0,y0),(1,y1),(5,y5),(10,y10),(11,y11)] w [1,1,0,1,0] code (BL K)
def k4:=nk ann 24 [(0,y0),(1,y1),(5,y5),(10,y10),(11,y11)] w [1,1,0,1,0,0,1,1] code (BL K)
def k6:=nk ann 24 [(0,y0),(1,y1),(5,y5),(10,y10),(11,y11)] w [1,1,0,1,0,0,1,1,1] code (BL K)
attribute [irreducible] k7 l3 k4 k6
end F264
def F264.k7.to(h:(K y5 w)):F264.k7 K y5 w:=qq h
def F264.l3.to(h:(U .lss y11 y10 w λa b=>Af a (F264.k4 K y0 y1 y5 y10 y11 b) (F264.k7 K y5 b))):F264.l3 K y0 y1 y5 y10 y11 w:=by unfold F264.l3 nl;exact BW (qq h)
def F264.k4.to(h:(Ag y0 w λa b=>Ab 1 a b λc d=>Ad c d λf g=>U .add y1 y11 g λi j=>A6 1 f i j λk m=>Aj 1 k (vq vy 0) m λo=>F264.k6 K y0 y1 y5 y10 y11 o)):F264.k4 K y0 y1 y5 y10 y11 w:=qq h
def F264.k6.to(h:(U .add y11 (vq vy 1) w λa b=>F264.l3 K y0 y1 y5 y10 a b)):F264.k6 K y0 y1 y5 y10 y11 w:=qq h
def F264.sh(h:(I vp 295 #[x0,x1] w λa b=>F264.l3 K x0 x1 a a (vq vy 0) b)):I vp 264 #[x0,x1] w K:=BK (A:=F264.ann) (args:=[x0,x1]) (qq h)
namespace F283
def ann:=a1 [(3,[0,1])]
def code:=cd f283
def BL:=tp f283
variable(K:VK)(y0 y1:wc)(w:wd)
@[irreducible]def k3:=nk ann 27 [(0,y0),(1,y1)] w [1,1] code (BL K)
end F283
def F283.k3.to(h:(Ag y0 w λa b=>Ab 1 a b λc d=>Ad c d λf g=>A6 1 f y1 g λi j=>Ad i j λk m=>K k m)):F283.k3 K y0 y1 w:=qq h
def F283.sh(h:(AG vp .eql 234 (.tmp 5) (.const (vr v6)) x0 (vr v6) w λa b=>Aa v8 a (λK=>K x1 b) b λc d=>Aa v8 a (U .lss c (vq vy 0) d) d λf g=>Ar (vz a) (vz (vw v7)) (vz f) g λi j=>Aa v8 i (λK=>K x1 j) j λk m=>Aa v8 i (λK=>K x0 m) m λo p=>Aa v8 i (Ag o p) p λq r=>Aa v8 i (Ab 1 q r) r λs t=>Aa v8 i (Ad s t) t λu v=>Aa v8 i (AH u v) v λx y=>Aa v8 i (U .geq k x y) y λz aa=>Ar (vz i) (vz (vw v7)) (vz z) aa λab ac=>Af ab (K (vq vy (-1)) ac) (F283.k3 K x0 x1 ac))):I vp 283 #[x0,x1] w K:=BK (A:=F283.ann) (args:=[x0,x1]) (qq h)
namespace F285
def ann:Cd:=⟨[(2,[0,1]),(3,[0,1]),(5,[1])],[(1,[0,1])],[],[],v6⟩
def code:=cd f285
def BL:=tp f285
variable(K:VK)(y0 y1:wc)(w:wd)
def k3:=nk ann 16 [(0,y0),(1,y1)] w [1,1] code (BL K)
def l1:=nl ann 16 [(0,y0),(1,y1)] w [1,0,0] code (BL K)
def k2:=nk ann 16 [(0,y0),(1,y1)] w [1,0,0,0,1] code (BL K)
def k5:=nk ann 16 [(1,y1)] w [1,1,1] code (BL K)
attribute [irreducible] k3 l1 k2 k5
end F285
def F285.k3.to(h:(I vp 295 #[y0,y1] w λa b=>U .eql a (vq vy 0) b λc d=>Af c (K (vq vy (-1)) d) (F285.k5 K y1 d))):F285.k3 K y0 y1 w:=qq h
def F285.l1.to(h:(I vp 283 #[y0,y1] w λa b=>U .eql a (vq vy 6) b λc d=>Af c (F285.k2 K y0 y1 d) (F285.k3 K y0 y1 d))):F285.l1 K y0 y1 w:=by unfold F285.l1 nl;exact BW (qq h)
def F285.k2.to(h:(U .sub y1 (vq vy 1) w λa b=>F285.l1 K y0 a b)):F285.k2 K y0 y1 w:=qq h
def F285.k5.to(h:(K y1 w)):F285.k5 K y1 w:=qq h
def F285.sh(h:(F285.l1 K x0 x1 w)):I vp 285 #[x0,x1] w K:=BK (A:=F285.ann) (args:=[x0,x1]) (qq h)
namespace F295
def ann:Cd:=⟨[(4,[0,1,5]),(6,[0,1]),(8,[0,1,6]),(9,[6])],[(7,[0,1,6])],[],[],v6⟩
def code:=cd f295
def BL:=tp f295
variable(K:VK)(y0 y1 y5 y6:wc)(w:wd)
def k4:=nk ann 24 [(0,y0),(1,y1),(5,y5)] w [1,1,1] code (BL K)
def k6:=nk ann 24 [(0,y0),(1,y1)] w [1,1,1,1] code (BL K)
def k9:=nk ann 24 [(6,y6)] w [1,1,1,1,1,1] code (BL K)
def l7:=nl ann 24 [(0,y0),(1,y1),(6,y6)] w [1,1,1,1,1,0,0] code (BL K)
def k8:=nk ann 24 [(0,y0),(1,y1),(6,y6)] w [1,1,1,1,1,0,0,0,1] code (BL K)
attribute [irreducible] k4 k6 k9 l7 k8
end F295
def F295.k4.to(h:(U .neq y5 (vq vy 5) w λa b=>Af a (K (vq vy 0) b) (F295.k6 K y0 y1 b))):F295.k4 K y0 y1 y5 w:=qq h
def F295.k6.to(h:(F295.l7 K y0 y1 (vq vy 1) w)):F295.k6 K y0 y1 w:=qq h
def F295.k9.to(h:(K y6 w)):F295.k9 K y6 w:=qq h
def F295.l7.to(h:(U .add y1 y6 w λa b=>I vp 283 #[y0,a] b λc d=>U .eql c (vq vy 6) d λf g=>Af f (F295.k8 K y0 y1 y6 g) (F295.k9 K y6 g))):F295.l7 K y0 y1 y6 w:=by unfold F295.l7 nl;exact BW (qq h)
def F295.k8.to(h:(U .add y6 (vq vy 1) w λa b=>F295.l7 K y0 y1 a b)):F295.k8 K y0 y1 y6 w:=qq h
def F295.sh(h:(I vp 283 #[x0,x1] w λa b=>I vp 175 #[a] b λc d=>U .gtr c (vq vy 0) d λf g=>Af f (K (vq vy 1) g) (F295.k4 K x0 x1 a g))):I vp 295 #[x0,x1] w K:=BK (A:=F295.ann) (args:=[x0,x1]) (qq h)
end
noncomputable section
variable{K:VK}{w:wd}{x0 x1 y0 y1 y7 y8:wc}
namespace F125
def ann:Cd:=⟨[(3,[0,1,7,8]),(6,[0,1,7,8]),(7,[])],[(2,[0,1,7,8])],[],[],v6⟩
def code:=cd f125
def BL:=tp f125
variable(K:VK)(y0 y1 y7 y8:wc)(w:wd)
def k7:=nk ann 19 [] w [1,1] code (BL K)
def l2:=nl ann 19 [(0,y0),(1,y1),(7,y7),(8,y8)] w [1,0,1,0] code (BL K)
def k3:=nk ann 19 [(0,y0),(1,y1),(7,y7),(8,y8)] w [1,0,1,0,0,1,1] code (BL K)
def k6:=nk ann 19 [(0,y0),(1,y1),(7,y7),(8,y8)] w [1,0,1,0,0,1,1,1] code (BL K)
attribute [irreducible] k7 l2 k3 k6
end F125
def F125.k7.to(h:(K (vq vy (-1)) w)):F125.k7 K w:=qq h
def F125.l2.to(h:(U .lss y8 y7 w λa b=>Af a (F125.k3 K y0 y1 y7 y8 b) (F125.k7 K b))):F125.l2 K y0 y1 y7 y8 w:=by unfold F125.l2 nl;exact BW (qq h)
def F125.k3.to(h:(A6 1 y0 y8 w λa b=>Ad a b λc d=>U .eql y1 c d λf g=>Af f (K y8 g) (F125.k6 K y0 y1 y7 y8 g))):F125.k3 K y0 y1 y7 y8 w:=qq h
def F125.k6.to(h:(U .add y8 (vq vy 1) w λa b=>F125.l2 K y0 y1 y7 a b)):F125.k6 K y0 y1 y7 y8 w:=qq h
def F125.sh(h:(AH x0 w λa b=>F125.l2 K x0 x1 a (vq vy 0) b)):I vp 125 #[x0,x1] w K:=BK (A:=F125.ann) (args:=[x0,x1]) (qq h)
def F85.sh(h:(I vp 125 #[x0,x1] w λa b=>U .geq a (vq vy 0) b λc d=>K c d)):I vp 85 #[x0,x1] w K:=BK (A:=A0) (args:=[x0,x1]) (qq h)
end
end
end Go.Proofs.QV
