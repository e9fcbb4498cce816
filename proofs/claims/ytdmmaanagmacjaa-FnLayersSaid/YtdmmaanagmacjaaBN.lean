/- Lemmas for FnLayers; no condition. -/

import Derived.Test.YtdmmaanagmacjaaBM
import Derived.Laws.Cover3
import Derived.KernelRfl
import Derived.Laws.StructEq
import Derived.Laws.Externs
import Derived.ChangeKeysEq
set_option linter.unusedVariables false
namespace Go.T
open Go Go.RowKit Go.Proofs
end Go.T
set_option linter.unusedVariables false
namespace Go.T
open Go Go.RowKit Go.Proofs
abbrev I (n:Int) : AV:=.lit (.int .i64 n)
abbrev IK (k:IntKind) (n:Int) : AV:=.lit (.int k n)
abbrev B (b:Bool) : AV:=.lit (.bool b)
abbrev w64 (n:Int) : Int:=IntKind.i64.wrap n
theorem Xjx : ∃ n:Nat,n=4611686018427387904:=⟨_,rfl⟩
noncomputable def FU:Nat:=Xjx.choose
theorem FU_eq:FU=4611686018427387904:=Xjx.choose_spec
theorem bnS {α β:Type} {o:Option α} {f : α→Option β} {r : β} (h:o.bind f=some r) : ∃ x,o=some x∧f x=some r:=by
 cases o with
 | none=>simp at h
 | some x=>exact ⟨x,rfl,h⟩
theorem itS {β:Type} {b:Bool} {x y:Option β} {r : β} (h:(if b=true then x else y)=some r) : (b=true∧x=some r)∨(b=false∧y=some r):=by
 cases b
 ·right;exact ⟨rfl,by simpa using h⟩
 ·left;exact ⟨rfl,by simpa using h⟩
open Classical in
noncomputable def both {α:Type} (x y:Option α) : Option α:=if x=y then x else none
noncomputable def Xjf {α β:Type} (xs:List α) (X Y:Option β) : Option β:=if xs.isEmpty=true then both X Y else Y
abbrev Str:=List UInt8
def sK (l:Str) : ByteArray:=⟨l.toArray⟩
abbrev SK (l:Str) : AV:=.lit (.string (sK l))
abbrev FK (n:Nat) : AV:=.lit (.float .f64 n)
def nz (b:Int) : Option Unit:=if b=0 then none else some ()
theorem nzE {b:Int} {u:Unit} (h:nz b=some u) : b≠0:=by unfold nz at h;split at h;cases h;assumption
def ge0 (b:Int) : Option Unit:=if b<0 then none else some ()
theorem ge0E {b:Int} {u:Unit} (h:ge0 b=some u) : ¬ b<0:=by unfold ge0 at h;split at h;cases h;assumption
def Xg8 (k:IntKind) (a b:Int) : Int:=k.wrap (BitVec.ofInt k.bits a &&& ~~~BitVec.ofInt k.bits b).toNat
def Xbn (k:IntKind) (a b:Int) : Int:=k.wrap (BitVec.ofInt k.bits a &&& BitVec.ofInt k.bits b).toNat
def ior (k:IntKind) (a b:Int) : Int:=k.wrap (BitVec.ofInt k.bits a ||| BitVec.ofInt k.bits b).toNat
def imax (a b:Int) : Int:=if b > a then b else a
def rd {α:Type} (l:List α) (i:Int) : Option α:=if 0≤i then l[i.toNat]? else none
section
variable {α β:Type} {l:List α} {i:Int} {e : α}
theorem rd0 (h:rd l i=some e) : 0≤i:=by unfold rd at h;split at h;assumption;cases h
theorem rdE (h:rd l i=some e) : l[i.toNat]? = some e:=by unfold rd at h;split at h;exact h;cases h
theorem rdM (f : α→β) (h:rd l i=some e) : (l.map f)[i.toNat]? = some (f e):=by rw [List.getElem?_map,rdE h];rfl
theorem rdL (f : α→β) (h:rd l i=some e) : i<((l.map f).length:Int):=by
 have h1:=rd0 h
 have h2:=(List.getElem?_eq_some_iff.1 (rdE h)).1
 rw [List.length_map]
 omega
theorem Qyf (f : α→β) {y : α}:(l.map f).set i.toNat (f y)=(l.set i.toNat y).map f:=List.map_set.symm
theorem setMr (f : α→β) {y : α} {ys : β} (h:ys=f y) : (l.map f).set i.toNat ys=(l.set i.toNat y).map f:=by rw [h];exact List.map_set.symm
theorem lnSet (f : α→β) {n:Nat} {y : α}:(l.map f).length=((l.set n y).map f).length:=by simp
theorem Xkq (f : α→β) {n m:Nat} {x y : α}:((l.set n x).map f).length=((l.set m y).map f).length:=by simp
theorem Xad {xs:List β} {n m:Nat} {x y : β} (hne:n≠m) (h:xs[m]? = some x) : (xs.set n y)[m]? = some x:=by rw [List.getElem?_set_ne hne];exact h
theorem Qn1 (f : α→β) {n:Nat} {y : β} (h:rd l i=some e) : i<((((l.map f).set n y).length:Nat) : Int):=by rw [List.length_set];exact rdL f h
theorem rdL2 (f : α→β) {n m:Nat} {y z : β} (h:rd l i=some e) : i<(((((l.map f).set n y).set m z).length:Nat) : Int):=by rw [List.length_set,List.length_set];exact rdL f h
theorem Xit (f : α→β) {x1 x2 : β} {y : α} {n m:Nat} (hne:n≠m) : ((((l.map f).set n x1).set m x2).set m (f y))=((l.set m y).map f).set n x1:=by
 rw [List.set_set,List.set_comm _ _ hne,List.map_set]
theorem Xgf {n:Nat} {y : β} {l:List β} (h:l[n]? = some y) : l.set n y=l:=by
 apply List.ext_getElem?
 intro k
 rw [List.getElem?_set]
 split
 ·rename_i e;subst e
  split
  ·exact h.symm
  ·rename_i h2;rw [List.getElem?_eq_none (by omega)] at h;cases h
 ·rfl
theorem Xao (f : α→β) {x : β} {y : α} (h:rd l i=some y) : ((l.map f).set i.toNat x).set i.toNat (f y)=l.map f:=by
 rw [List.set_set,← List.map_set,Xgf (rdE h)]
theorem Qzz (f : α→β) {x1 x2 : β} {y : α} {n:Nat} (hne:n≠i.toNat) (h:rd l i=some y) : ((((l.map f).set n x1).set i.toNat x2).set i.toNat (f y))=(l.map f).set n x1:=by
 rw [Xit f hne,Xgf (rdE h)]
def nx1 (i:Int) : Option Unit:=if w64 (i+1)=i+1 then some () else none
def Xe2 (l:List α) (hi:Int) : Option Unit:=if hi=(l.length:Int) then some () else none
def Xht (l:List α) (i:Int) : Option Unit:=if (l.length:Int)≤i then some () else none
section
variable {o r : α→List AV} {A:List α} {q q':Unit}
end
def neI (i j:Int) : Option Unit:=if i=j then none else some ()
theorem neN {a b:Int} {u:Unit} (h:neI a b=some u) (ha : 0≤a) (hb : 0≤b) : a.toNat≠b.toNat:=by
 unfold neI at h
 split at h
 ·cases h
 ·omega
theorem rok {π:List (Nat×Nat)} {xs:List (List AV)} (h:Qa1 xs=true) : Qa6 π xs:=.inl h
theorem Qg3 {π:List (Nat×Nat)} {xs:List (List AV)} {n:Nat} {x:List AV} (h:Qa6 π xs) (hx:Xe6 π x=x) : Qa6 π (xs.set n x):=.inr (by
  have h1:=h.eq
  unfold Qqq at h1 ⊢
  rw [List.map_set,h1,hx])
theorem setSS (f : α→β) {x y : α} {ys : β} (h:ys=f y) : ((l.set i.toNat x).map f).set i.toNat ys=(l.set i.toNat y).map f:=by rw [h,← List.map_set,List.set_set]
theorem rdS {x y : α} (h:rd l i=some x) : rd (l.set i.toNat y) i=some y:=by
 unfold rd at h ⊢
 split at h
 ·rename_i h0
  rw [if_pos h0,List.getElem?_set_self (List.getElem?_eq_some_iff.1 h).1]
 ·cases h
theorem pkS {j a b:Nat} (h:a=b) : some (AV.sl j 0 a)=some (AV.sl j 0 b):=by rw [h]
theorem Qcl {y : β} {xs:List β} {n:Nat} {x : β} (h:xs[n]? = some x) : (xs.set n y)[n]? = some y:=by
 have:=(List.getElem?_eq_some_iff.1 h).1
 rw [List.getElem?_set_self this]
theorem Qfn (f : α→β) : AV.lit (.int .i64 ((l.map f).length:Nat))=AV.lit (.int .i64 (l.length:Nat)):=by rw [List.length_map]
def app (l1 l2:List α) : Option (List α):=if l1.length+l2.length<1099511627776 then some (l1++l2) else none
variable {l1 l2:List α}
theorem Xeu (h:app l1 l2=some l) : l1++l2=l:=by unfold app at h;split at h;cases h;rfl;cases h
theorem Xks (h:app l1 l2=some l) : l.length<1099511627776:=by
 unfold app at h;split at h
 ·cases h;rw [List.length_append];assumption
 ·cases h
theorem appT (f : α→β) (h:app l1 l2=some l) : (l1.map f).take (l1.map f).length++l2.map f=l.map f:=by
 rw [List.take_length,← Xeu h,List.map_append]
theorem Qnn (f : α→β) (h:app l1 l2=some l) {b:Nat} (hb:b≤128) : (l.map f).length * b≤140737488355328:=by
 have:=Xks h
 rw [List.length_map]
 calc l.length * b≤1099511627776 * 128:=Nat.mul_le_mul (by omega) hb
  _=140737488355328:=rfl
theorem Qnm (f : α→β) (h:app l1 l2=some l) : (l.map f).length≤140737488355328:=by
 have:=Xks h
 rw [List.length_map];omega
theorem plM {f : α→List AV} (h : ∀ x,(f x).all AV.plain=true) : (l.map f).all (fun r=>r.all AV.plain)=true:=by
 rw [List.all_eq_true]
 intro y hy
 obtain ⟨x,_,rfl⟩:=List.mem_map.1 hy
 exact h x
theorem Qiw (f : α→β) (h:app l1 l2=some l) : (l1.map f).take (List.length (l1.map f))++(((l2.map f).drop 0).take (List.length (l2.map f)))=l.map f:=by
 rw [List.drop_zero,List.take_length,List.take_length,← Xeu h,List.map_append]
theorem plD {f : α→List AV} (h : ∀ x,(f x).all AV.plain=true) {a n:Nat}:(((l.map f).drop a).take n).all (fun r=>r.all AV.plain)=true:=by
 rw [← List.map_drop,← List.map_take];exact plM h
theorem apT (f : α→β) {x : β}:(l.map f).take (l.map f).length++[x]=l.map f++[x]:=by rw [List.take_length]
theorem apB (f : α→β) {x : β} {y : α} {l':List α} (h:app l [y]=some l') {b:Nat} (hb:b≤128) : (l.map f++[x]).length * b≤140737488355328:=by
 have:=Qnn f h hb
 rw [← Xeu h,List.length_map,List.length_append] at this
 rw [List.length_append,List.length_map];exact this
theorem apC (f : α→β) {x : β} {y : α} {l':List α} (h:app l [y]=some l') : (l.map f++[x]).length≤140737488355328:=by
 have:=Qnm f h
 rw [← Xeu h,List.length_map,List.length_append] at this
 rw [List.length_append,List.length_map];exact this
theorem apG (f : α→β) {x : β}:(l.map f++[x])[l.length]? = some x:=by
 rw [List.getElem?_append_right (by simp)];simp
theorem apS (f : α→β) {x : β} {y : α} {l':List α} (h:app l [y]=some l') : (l.map f++[x]).set l.length (f y)=l'.map f:=by
 rw [← Xeu h,List.set_append_right _ _ (by simp)]
 simp
theorem apLn (f : α→β) {x : β} {y : α} {l':List α} (h:app l [y]=some l') : List.length (l.map f++[x])=List.length (l'.map f):=by
 rw [← Xeu h];simp
theorem rsW {τ:List (Nat×Qae)} {xs zs:List (List AV)} (h:Qq1 τ xs=some zs) : Qq1 τ ((xs.drop 0).take xs.length)=some zs:=by simpa using h
theorem rsWn {τ:List (Nat×Qae)} {xs zs:List (List AV)} {n:Nat} (hn:n=xs.length) (h:Qq1 τ xs=some zs) : Qq1 τ ((xs.drop 0).take n)=some zs:=by subst hn;simpa using h
theorem Xgk {τ:List (Nat×Qae)} {T:Type} {o r:T→List AV} (ht : ∀ x,Qeq (o x)=true) (hz : ∀ x,Qnh (o x)=r x) {X:List T} {e:Nat} {c:List AV} {y:T} (hc:rsL τ c=some (r y)) : Qq1 τ ((X.map o).set e c)=some ((X.set e y).map r):=by
 rw [List.map_set]
 exact Xa1 hc (Qjf ht hz X)
theorem Xgq {τ:List (Nat×Qae)} {j n:Nat} {R:Qae} {zs:List (List AV)} (h : τ.lookup j=some R) (hw:Frz ((R.xs.drop 0).take n) zs) : rs1 τ (.sl j 0 n)=some (.ro R.sz zs):=by
 unfold rs1
 rw [if_neg (by simp [Qw6])]
 simp only [h]
 rw [if_pos hw.1,hw.2]
theorem Qqm {τ:List (Nat×Qae)} {c d:AV} {cs ds:List AV} (h1:rs1 τ c=some d) (h2:rsL τ cs=some ds) : rsL τ (c :: cs)=some (d :: ds):=by simp only [rsL,h1,h2]
def mk (z : α) (n:Int) : Option (List α):=if 0≤n∧n<1099511627776 then some (List.replicate n.toNat z) else none
variable {n:Int} {z : α}
theorem mkI (h:mk z n=some l) : 0≤n∧n<1099511627776∧List.replicate n.toNat z=l:=by
 unfold mk at h;split at h
 ·cases h;rename_i hh;exact ⟨hh.1,hh.2,rfl⟩
 ·cases h
theorem mkM (f : α→β) (h:mk z n=some l) : List.replicate n.toNat (f z)=l.map f:=by rw [← (mkI h).2.2,List.map_replicate]
theorem mk0 (h:mk z n=some l) : 0≤n:=(mkI h).1
theorem mkB (h:mk z n=some l) {b:Nat} (hb:b≤128) : n * (b:Int)≤140737488355328:=by
 obtain ⟨h1,h2,_⟩:=mkI h
 calc n * (b:Int)≤1099511627776 * 128:=Int.mul_le_mul (by omega) (by omega) (by omega) (by omega)
  _=140737488355328:=rfl
theorem mkC (h:mk z n=some l) : n≤140737488355328:=by have:=(mkI h).2.1;omega
theorem mkS (f : α→β) (h:mk z n=some l) {id:Nat}:AV.sl id 0 n.toNat=AV.sl id 0 (List.length (l.map f)):=by
 rw [← (mkI h).2.2,List.length_map,List.length_replicate]
theorem Qhd (f : α→β) {x z : β} {y : α} {e:Nat} (h:z=f y) : ((l.map f).set e x).set e z=(l.set e y).map f:=by rw [h,List.set_set,List.map_set]
theorem Xe9 (f : α→β) {x : β} {y : α} {e:Nat}:((l.map f).set e x).set e (f y)=(l.set e y).map f:=by rw [List.set_set,List.map_set]
def slc (l:List α) (lo hi:Int) : Option (List α):=if 0≤lo∧lo≤hi∧hi≤(l.length:Int) then some ((l.drop lo.toNat).take (hi.toNat - lo.toNat)) else none
variable {lo hi:Int} {l':List α}
theorem slI (h:slc l lo hi=some l') : 0≤lo∧lo≤hi∧hi≤(l.length:Int)∧(l.drop lo.toNat).take (hi.toNat - lo.toNat)=l':=by
 unfold slc at h;split at h
 ·cases h;rename_i hh;exact ⟨hh.1,hh.2.1,hh.2.2,rfl⟩
 ·cases h
theorem shT (f : α→β) (h:slc l 0 hi=some l') : (l.map f).take hi.toNat=l'.map f:=by
 obtain ⟨_,_,_,h4⟩:=slI h
 rw [← h4];simp
theorem sl0 (h:slc l lo hi=some l') : 0≤lo:=(slI h).1
theorem sl1 (h:slc l lo hi=some l') : lo≤hi:=(slI h).2.1
theorem sl2 (f : α→β) (h:slc l lo hi=some l') : hi≤((l.map f).length:Int):=by rw [List.length_map];exact (slI h).2.2.1
theorem sl1e (f : α→β) (h:slc l lo (l.length:Int)=some l') : lo≤((l.map f).length:Int):=by rw [List.length_map];exact (slI h).2.1
theorem winE (h:slc l lo hi=some l') : (l.drop lo.toNat).take (Xf0 hi.toNat lo.toNat)=l':=by rw [Qyj];exact (slI h).2.2.2
theorem winM (f : α→β) (h:slc l lo hi=some l') : ((l.map f).drop lo.toNat).take (Xf0 hi.toNat lo.toNat)=l'.map f:=by
 rw [← List.map_drop,← List.map_take,winE h]
theorem winMe (f : α→β) (h:slc l lo (l.length:Int)=some l') : ((l.map f).drop lo.toNat).take (Xf0 ((((l.map f).length:Nat) : Int)).toNat lo.toNat)=l'.map f:=by
 have:=winM f h
 rw [List.length_map];exact this
theorem Xds (f : α→β) {l0:List α} (h:app l0 l'=some l2) (hs:slc l lo (l.length:Int)=some l') : (l0.map f).take (List.length (l0.map f))++(((l.map f).drop lo.toNat).take (Xf0 ((((l.map f).length:Nat) : Int)).toNat lo.toNat))=l2.map f:=by
 rw [winMe f hs,List.take_length,← Xeu h,List.map_append]
end
section
variable {α:Type} {l:List α}
theorem Qlc {o z : α→List AV} (ht : ∀ x,Qeq (o x)=true) (hz : ∀ x,Qnh (o x)=z x) : Frz (((l.map o).drop 0).take (l.map o).length) (l.map z):=by
 rw [List.drop_zero,List.take_length]
 refine ⟨?_,?_⟩
 ·rw [Qa1,List.all_eq_true]
  intro y hy
  obtain ⟨x,_,rfl⟩:=List.mem_map.1 hy
  exact ht x
 ·rw [Qsj,List.map_map]
  refine List.map_congr_left fun x _=>?_
  rw [← hz x,Qqu];rfl
theorem Xem {o z : α→List AV} (hz : ∀ x,Qnh (o x)=z x) : Qnk (l.map o)=l.map z:=by
 rw [Qsj,List.map_map]
 refine List.map_congr_left fun x _=>?_
 rw [← hz x,Qqu];rfl
theorem Qa7 {o : α→List AV} (ht : ∀ x,Qeq (o x)=true) : Qa1 (l.map o)=true:=by
 rw [Qa1,List.all_eq_true]
 intro y hy
 obtain ⟨x,_,rfl⟩:=List.mem_map.1 hy
 exact ht x
theorem Qay {o : α→List AV} (ht : ∀ x,Qeq (o x)=true) : Qa1 ((l.map o).take (l.map o).length)=true:=by rw [List.take_length];exact Qa7 ht
theorem Qax {o : α→List AV}:(l.map o).take (l.map o).length=l.map o:=List.take_length
theorem Qb1 {o : α→List AV} (ht : ∀ x,Qeq (o x)=true) (x : α) : Qa1 [o x]=true:=by
 simp only [Qa1,List.all_cons,List.all_nil,ht x,Bool.and_true]
theorem Qaa {o : α→List AV} (hn : ∀ x,Qcw (o x)=true) : Qa4 (l.map o)=true:=by
 induction l with
 | nil=>rfl
 | cons x l ih=>simp only [List.map_cons,Qa4,hn x,ih,Bool.and_self]
end
def rdv {α:Type} {k:Nat} (v:Vector α k) (i:Int) : Option α:=if 0≤i then v[i.toNat]? else none
section
variable {α:Type} {k:Nat} {v:Vector α k} {i:Int} {e : α}
theorem rv0 (h:rdv v i=some e) : 0≤i:=by unfold rdv at h;split at h;assumption;cases h
theorem rvE (h:rdv v i=some e) : v[i.toNat]? = some e:=by unfold rdv at h;split at h;exact h;cases h
theorem rvL (h:rdv v i=some e) : i<((k:Nat) : Int):=by
 have h1:=rv0 h
 have h2:=rvE h
 have:i.toNat<k:=by
  rcases Nat.lt_or_ge i.toNat k with h3 | h3
  ·exact h3
  ·rw [Vector.getElem?_eq_none h3] at h2;cases h2
 omega
theorem rvM {β:Type} (f : α→β) (h:rdv v i=some e) : (v.toList.map f)[i.toNat]? = some (f e):=by
 rw [List.getElem?_map,Vector.getElem?_toList,rvE h];rfl
theorem Qq9 {β:Type} (f : α→β) : (v.toList.map f).length=k:=by simp
theorem Qor {β:Type} (f : α→β) : ((v.toList.map f).drop 0).take k=v.toList.map f:=by
 rw [List.drop_zero,List.take_of_length_le (by simp)]
theorem Xkv (f : α→AV) (y : α) (hl:i.toNat<k) : [v.toList.map f].set 0 (wr (v.toList.map f) i.toNat [f y])=[(v.setIfInBounds i.toNat y).toList.map f]:=by
 have:wr (v.toList.map f) i.toNat [f y]=(v.setIfInBounds i.toNat y).toList.map f:=by
  unfold wr
  rw [Vector.toList_setIfInBounds,List.map_set,List.set_eq_take_append_cons_drop,if_pos (by simpa using hl)]
  simp
 rw [this];rfl
theorem rvLt (h:rdv v i=some e) : i.toNat<k:=by have:=rvL h;have:=rv0 h;omega
theorem Qnt {β:Type} (f : α→β) : 0+k≤(v.toList.map f).length:=by simp
theorem Xac (f : α→AV) (h : ∀ x,Qa8 (f x)=true) : Qa8 (.agg (v.toList.map f))=true:=by
 simp only [Qa8]
 induction v.toList with
 | nil=>rfl
 | cons x l ih=>simp only [List.map_cons,Qsy,h x,ih,Bool.and_self]
theorem Xk4 (f : α→AV) (h:rdv v i=some e) : i.toNat+1≤(v.toList.map f).length:=by have:=rvLt h;simp;omega
theorem Qji (f : α→AV) {p:AV→Bool} (h : ∀ x,p (f x)=true) : (v.toList.map f).all p=true:=by
 rw [List.all_eq_true]
 intro y hy
 obtain ⟨x,_,rfl⟩:=List.mem_map.1 hy
 exact h x
theorem Xhl (f : α→AV) (h : ∀ x,Qw6 (f x)=true) : Qeq (v.toList.map f)=true:=by
 induction v.toList with
 | nil=>rfl
 | cons x l ih=>simp only [List.map_cons,Qeq,h x,ih,Bool.and_self]
theorem Xhe (f : α→AV) (h : ∀ x,Qez (f x)=true) : Qcw (v.toList.map f)=true:=by
 induction v.toList with
 | nil=>rfl
 | cons x l ih=>simp only [List.map_cons,Qcw,h x,ih,Bool.and_self]
theorem Xjn {x y:List AV} (h:x.length=y.length) : wr x 0 y=y:=by
 unfold wr
 rw [List.take_zero,List.nil_append,Nat.zero_add,List.drop_of_length_le (by omega),List.append_nil]
theorem Xie {u:Vector α k} (f g : α→AV) : [v.toList.map f].set 0 (wr (v.toList.map f) 0 (u.toList.map g))=[u.toList.map g]:=by
 rw [Xjn (by simp)];rfl
theorem Xg1 {u:Vector α k} (f g : α→AV) : 0+(v.toList.map f).length≤(u.toList.map g).length:=by simp
theorem setV {o:Vector α k→List AV} (f : α→AV) (ho : ∀ x,o x=x.toList.map f) {l:List (Vector α k)} {n:Nat} {x y:Vector α k}:(l.map o).set n (wr (o x) 0 (o y))=(l.set n y).map o:=by
 rw [Xjn (by rw [ho,ho];simp),List.map_set]
theorem Qzj (f : α→AV) (h : 0<k) : 0<(v.toList.map f).length:=by simpa using h
end
section
variable {α:Type} {k s:Nat} {v:Vector α k} {i:Int} {x y : α} {o : α→List AV}
end
theorem frI {ks:List Bool} {fr:List Nat} {m:Nat} (h:((List.range ks.length).all fun i => !(ks[i]? == some true) || fr.contains i)=true) : ∀ i,i<m→ks[i]? = some true→i∈fr:=by
 intro i _ hk
 have hi:i<ks.length:=by
  rcases Nat.lt_or_ge i ks.length with h1 | h1
  ·exact h1
  ·rw [List.getElem?_eq_none_iff.2 h1] at hk;cases hk
 have:=List.all_eq_true.1 h i (List.mem_range.2 hi)
 rw [hk] at this
 simpa using this
theorem Qh1 {n:Nat} (h:Qme n=true) : ∃ s t,Ieee.double.read n = .nan s t:=by
 unfold Qme at h
 change (Ieee.Format.order Ieee.double n n).isNone=true at h
 unfold Ieee.Format.order at h
 generalize Ieee.double.read n=d at h
 cases d with
 | nan s t=>exact ⟨s,t,rfl⟩
 | infinity s=>simp [Ieee.Datum.order] at h
 | number s m i=>simp [Ieee.Datum.order] at h
theorem Xej {n:Nat} {s:Bool} {t:Nat} (h:Ieee.double.read n = .nan s t) : Qme n=true:=by
 unfold Qme
 show (Ieee.Format.order Ieee.double n n).isNone=true
 unfold Ieee.Format.order
 rw [h];rfl
theorem Xa7 {n:Nat} (h : 9218868437227405312<n % 9223372036854775808) : Qme n=true:=by
 have e:Ieee.double.read n = .nan (n / Ieee.double.signWeight % 2 == 1) (n % Ieee.double.signWeight - Ieee.double.infRung):=by
  unfold Ieee.Format.read
  have h1:Ieee.double.signWeight=9223372036854775808:=by decide +kernel
  have h2:Ieee.double.binade=4503599627370496:=by decide +kernel
  have h3:Ieee.double.infRung=9218868437227405312:=by decide +kernel
  simp only [h1,h2,h3]
  rw [if_neg (by omega),if_neg (by omega),if_neg (by omega)]
 exact Xej e
theorem Xex {n:Nat} (h:Qme n=true) : 9218868437227405312<n % 9223372036854775808:=by
 obtain ⟨s,t,e⟩:=Qh1 h
 unfold Ieee.Format.read at e
 have h1:Ieee.double.signWeight=9223372036854775808:=by decide +kernel
 have h2:Ieee.double.binade=4503599627370496:=by decide +kernel
 have h3:Ieee.double.infRung=9218868437227405312:=by decide +kernel
 simp only [h1,h2,h3] at e
 split at e
 ·cases e
 split at e
 ·cases e
 split at e
 ·cases e
 omega
theorem Xfa {x y t:Nat}:Qme ((Question.nanBits .f64 x y).cut t)=true:=by
 refine Xa7 ?_
 show 9218868437227405312<((t % 2) * 2 ^ 63+0x7ff0000000000000+1+(t / 2) % (2 ^ 52 - 1)) % 9223372036854775808
 have h1:(t / 2) % (2 ^ 52 - 1)<4503599627370495:=Nat.mod_lt _ (by decide)
 have h2:t % 2=0∨t % 2=1:=by omega
 rcases h2 with h2 | h2 <;> (rw [h2];omega)
def Xig:Nat:=9221120237041090561
theorem Xk9:Qme Xig=true:=by decide +kernel
def F1 (m n:Nat) : Prop:=m=n∨Qme m=true∧Qme n=true
theorem Xaj {u:Value} {a:Nat} (h:IsV (FK a) u) : ∃ m,u = .float .f64 m∧F1 m a:=by
 rcases h with ⟨v,h1,h2⟩ | ⟨vs,us,h1,_⟩
 ·cases h1;exact h2.flt
 ·cases h1
theorem Qtd {x:AV} {u v:Value} (h:IsV x u) (hx:x = .lit v) (hn:nf v=true:=by rfl) : u=v:=by
 subst hx
 rcases h with ⟨v',h1,h2⟩ | ⟨vs,us,h1,_⟩
 ·cases h1;exact h2.eq hn
 ·cases h1
theorem Qlu {α:Type} {f:Ieee.Datum→Ieee.Datum→Option α} (hl : ∀ s t d,f (.nan s t) d=none) (hr : ∀ s t d,f d (.nan s t)=none) {a b a' b':Nat} (ha:F1 a a') (hb:F1 b b') :
  f (Ieee.double.read a) (Ieee.double.read b)=f (Ieee.double.read a') (Ieee.double.read b'):=by
 rcases ha with rfl | ⟨h1,h2⟩
 ·rcases hb with rfl | ⟨h1,h2⟩
  ·rfl
  ·obtain ⟨s,t,e1⟩:=Qh1 h1
   obtain ⟨s2,t2,e2⟩:=Qh1 h2
   rw [e1,e2,hr,hr]
 ·obtain ⟨s,t,e1⟩:=Qh1 h1
  obtain ⟨s2,t2,e2⟩:=Qh1 h2
  rw [e1,e2,hl,hl]
def Qd9 (a b:Nat) : Option Ordering:=FloatKind.f64.format.order a b
theorem Xbs {a b a' b':Nat} (ha:F1 a a') (hb:F1 b b') : FloatKind.f64.format.order a b=Qd9 a' b':=
 Qlu (f:=Ieee.Datum.order) (fun s t d=>by cases d <;> rfl) (fun s t d=>by cases d <;> rfl) ha hb
theorem Xix {P:Program} {t a b:Nat} {op:BinOp} {g:Option Ordering→Bool} (h : ∀ (m n:Nat) (w:World) (X Y:Operand),(do eqGuard op t X Y (.float .f64 m) (.float .f64 n);binOp op t (.float .f64 m) (.float .f64 n) : Sem Value).run P w = .ok (.bool (g (FloatKind.f64.format.order m n))) w) : Qil P op t (FK a) (FK b) (B (g (Qd9 a b))):=by
 refine ⟨.inl ⟨_,rfl⟩,.inl ⟨_,rfl⟩,_,rfl,fun u v hu hv w X Y=>?_⟩
 obtain ⟨m,rfl,hm⟩:=Xaj hu
 obtain ⟨n,rfl,hn⟩:=Xaj hv
 exact ⟨_,w,h m n w X Y,by rw [Xbs hm hn];exact VEq.refl _,.inl rfl⟩
theorem Xkg {P:Program} {t a b:Nat}:Qil P .eql t (FK a) (FK b) (B (Qd9 a b == some .eq)):=Xix (g:=fun c=>c == some .eq) fun m n w X Y=>by simp [eqGuard,binOp,Op.floatCmp]
theorem fNeq {P:Program} {t a b:Nat}:Qil P .neq t (FK a) (FK b) (B (Qd9 a b != some .eq)):=Xix (g:=fun c=>c != some .eq) fun m n w X Y=>by simp [eqGuard,binOp,Op.floatCmp]
theorem Xju {P:Program} {t a b:Nat}:Qil P .lss t (FK a) (FK b) (B (Qd9 a b == some .lt)):=Xix (g:=fun c=>c == some .lt) fun m n w X Y=>by simp [eqGuard,binOp,Op.floatCmp]
def fng (a:Nat) : Nat:=a ^^^ 9223372036854775808
theorem Xia (a:Nat) : fng a % 9223372036854775808=a % 9223372036854775808:=by
 have:=Nat.xor_mod_two_pow (a:=a) (b:=2 ^ 63) (n:=63)
 rw [Nat.mod_self,Nat.xor_zero] at this
 exact this
theorem Xdx {a:Nat} (h:Qme a=true) : Qme (fng a)=true:=Xa7 (by rw [Xia];exact Xex h)
theorem uNeg {P:Program} {a:Nat}:UnS P .neg (FK a) (FK (fng a)):=by
 refine ⟨.inl ⟨_,rfl⟩,_,rfl,fun u hu w=>?_⟩
 obtain ⟨m,rfl,hm⟩:=Xaj hu
 have e:Op.negFloat .f64 m=fng m:=rfl
 refine ⟨.float .f64 (fng m),w,by simp [Op.unary,e],?_,.inl rfl⟩
 rcases hm with rfl | ⟨h1,h2⟩
 ·exact VEq.refl _
 ·exact .inr ⟨_,rfl,Xdx h1,Xdx h2⟩
theorem Xiy (l:Str) : (sK l).toList=l:=by unfold sK;exact ByteArray.toList_mk l
theorem Xga {P:Program} {op:BinOp} {t:Nat} {x y v:Value} (h:Qoz op x y=some v) : Qil P op t (.lit x) (.lit y) (.lit v):=
  ⟨.inl ⟨_,rfl⟩,.inl ⟨_,rfl⟩,_,rfl,fun u u' hu hv w X Y=>by
    rw [Qtd hu rfl (Qqv h).1,Qtd hv rfl (Qqv h).2]
    exact ⟨_,w,Qr5 h,VEq.refl _,.inl rfl⟩⟩
theorem Xei {P:Program} {t:Nat} {a b:Str}:Qil P .eql t (SK a) (SK b) (B (a == b)):=Xga (by simp [Qoz,Xiy])
def fdv (a b:Nat) : Nat:=(FloatKind.f64.format.div a b).getD Xig
def fad (a b:Nat) : Nat:=(FloatKind.f64.format.add a b).getD Xig
def fsb (a b:Nat) : Nat:=(FloatKind.f64.format.sub a b).getD Xig
def fml (a b:Nat) : Nat:=(FloatKind.f64.format.mul a b).getD Xig
theorem fArS {P:Program} {t a b:Nat} {op:BinOp} {g:Nat→Nat→Option Nat} (hc : ∀ {m n m' n':Nat},F1 m m'→F1 n n'→g m n=g m' n')
  (h : ∀ (m n:Nat) (w:World) (X Y:Operand),(do eqGuard op t X Y (.float .f64 m) (.float .f64 n);binOp op t (.float .f64 m) (.float .f64 n) : Sem Value).run P w=(match g m n with | some r=>pure (.float .f64 r) | none=>(do pure (.float .f64 (← choose (.nanBits .f64 m n)))) : Sem Value).run P w) : Qil P op t (FK a) (FK b) (FK ((g a b).getD Xig)):=by
 refine ⟨.inl ⟨_,rfl⟩,.inl ⟨_,rfl⟩,_,rfl,fun u v hu hv w X Y=>?_⟩
 obtain ⟨m,rfl,hm⟩:=Xaj hu
 obtain ⟨n,rfl,hn⟩:=Xaj hv
 have e:=hc hm hn
 rw [h m n w X Y,e]
 cases hg:g a b with
 | some r=>exact ⟨_,w,by simp,VEq.refl _,.inl rfl⟩
 | none =>
  refine ⟨.float .f64 ((Question.nanBits .f64 m n).cut (w.tape w.drawn (.nanBits .f64 m n))),w.drew,?_,.inr ⟨_,rfl,Xfa,Xk9⟩,.inr rfl⟩
  rfl
theorem Xje {P:Program} {t a b:Nat}:Qil P .quo t (FK a) (FK b) (FK (fdv a b)):=fArS (g:=fun m n=>FloatKind.f64.format.div m n) (fun hm hn=>congrArg (fun d=>Option.map Ieee.double.write d) (Qlu (f:=fun d e=>d.quotient (Ieee.double.fractionBits+2) e) (fun s t d=>by cases d <;> rfl) (fun s t d=>by cases d <;> rfl) hm hn)) fun m n w X Y=>by simp [eqGuard,binOp,Op.floatArith];rfl
theorem fAdd {P:Program} {t a b:Nat}:Qil P .add t (FK a) (FK b) (FK (fad a b)):=fArS (g:=fun m n=>FloatKind.f64.format.add m n) (fun hm hn=>congrArg (fun d=>Option.map Ieee.double.write d) (Qlu (f:=Ieee.Datum.sum) (fun s t d=>by cases d <;> rfl) (fun s t d=>by cases d <;> rfl) hm hn)) fun m n w X Y=>by simp [eqGuard,binOp,Op.floatArith];rfl
theorem fSub {P:Program} {t a b:Nat}:Qil P .sub t (FK a) (FK b) (FK (fsb a b)):=fArS (g:=fun m n=>FloatKind.f64.format.sub m n) (fun hm hn=>congrArg (fun d=>Option.map Ieee.double.write d) (Qlu (f:=fun d e=>d.sum e.opposite) (fun s t d=>by cases d <;> rfl) (fun s t d=>by cases d <;> rfl) hm hn)) fun m n w X Y=>by simp [eqGuard,binOp,Op.floatArith];rfl
theorem fMul {P:Program} {t a b:Nat}:Qil P .mul t (FK a) (FK b) (FK (fml a b)):=fArS (g:=fun m n=>FloatKind.f64.format.mul m n) (fun hm hn=>congrArg (fun d=>Option.map Ieee.double.write d) (Qlu (f:=Ieee.Datum.product) (fun s t d=>by cases d <;> rfl) (fun s t d=>by cases d <;> rfl) hm hn)) fun m n w X Y=>by simp [eqGuard,binOp,Op.floatArith];rfl
def fOf (n:Int) : Nat:=FloatKind.f64.nearest n
theorem cIF {P:Program} {src dst sz bt sz2 bt2:Nat} {z z2:List Value} {k:IntKind} {n:Int} (h1:Qi4 P src=some ⟨sz,bt,.int k,z⟩) (h2:Qi4 P dst=some ⟨sz2,bt2,.float .f64,z2⟩) : Xb9 P src dst (IK k n) (FK (fOf n)):=
 ⟨.inl ⟨_,rfl⟩,_,rfl,fun u hu w=>⟨_,w,by rw [Qtd hu rfl];simp only [convert,Sem.run_bind,run_underlying (Qas h1),run_underlying (Qas h2),Result.andThen_ok,Conv.intToFloat,Sem.run_pure];rfl,VEq.refl _,.inl rfl⟩⟩
def fTo (a:Nat) : Option Int:=match (Ieee.double.read a).toInt .zero with
 | some n=>if IntKind.i64.min≤n∧n≤IntKind.i64.max then some n else none
 | none=>none
theorem cFI {P:Program} {src dst sz bt sz2 bt2:Nat} {z z2:List Value} {a:Nat} {n:Int} (h1:Qi4 P src=some ⟨sz,bt,.float .f64,z⟩) (h2:Qi4 P dst=some ⟨sz2,bt2,.int .i64,z2⟩) (h:fTo a=some n) : Xb9 P src dst (FK a) (IK .i64 n):=
  ⟨.inl ⟨_,rfl⟩,_,rfl,fun u hu w=>by
    obtain ⟨m,rfl,hm⟩:=Xaj hu
    unfold fTo at h
    have e:Ieee.double.read m=Ieee.double.read a:=by
      rcases hm with rfl | ⟨_,h2⟩
      · rfl
      · obtain ⟨s,t,e2⟩:=Qh1 h2
        rw [e2] at h
        simp [Ieee.Datum.toInt,Ieee.Datum.integral] at h
    rw [← e] at h
    split at h
    · rename_i n' hn
      split at h
      · rename_i hb
        cases h
        refine ⟨_,w,?_,VEq.refl _,.inl rfl⟩
        have hn2:(FloatKind.f64.decode m).toInt .zero=some n:=hn
        simp only [convert,Sem.run_bind,run_underlying (Qas h1),run_underlying (Qas h2),Result.andThen_ok,Conv.floatToInt,hn2,if_pos hb,Sem.run_pure]
      · cases h
    · cases h⟩
def fTr (a:Nat) : Nat:=Ieee.double.write ((Ieee.double.read a).integral .zero)
def Xh3 (a:Nat) : Option Unit:=if Qme a then none else some ()
theorem Qfy {α:Type} {l:List α} {i:Nat} {a b c : α} (h:b=c) : (l.set i a).set i b=l.set i c:=by rw [h,List.set_set]
section
variable {α β:Type} {l l':List α} {i j:Int}
theorem Xev (h:decide (j=i)=false) : neI i j=some ():=by
 unfold neI;rw [if_neg (fun e=>by subst e;simp at h)]
theorem eqG {xs:List β} {x : β} (hc:decide (i=j)=true) (h:xs[j.toNat]? = some x) : xs[i.toNat]? = some x:=by rw [of_decide_eq_true hc];exact h
theorem eqLe {a:Int} (hc:decide (i=j)=true) (h:a≤j) : a≤i:=by rw [of_decide_eq_true hc];exact h
theorem eqLt {a:Int} (hc:decide (i=j)=true) (h:j<a) : i<a:=by rw [of_decide_eq_true hc];exact h
theorem setND (f : α→β) {n m:Nat} {c z : β} {y : α} (hne:n≠m) (h:z=f y) : ((l.map f).set n c).set m z=((l.set m y).map f).set n c:=by rw [h,List.set_comm _ _ hne,List.map_set]
def Qwe (l:List α) (hi:Int) : Option Unit:=if hi=(l.length:Int) then some () else none
theorem Xcp {hi:Int} {q:Unit} (h:Qwe l hi=some q) : hi=(l.length:Int):=by unfold Qwe at h;split at h;assumption;cases h
theorem Xjp (f : α→β) {hi:Int} {q:Unit} {r:Nat} (h:Qwe l hi=some q) : AV.sl r 0 hi.toNat=AV.sl r 0 (l.map f).length:=by rw [Xcp h];simp
theorem Xl4 {hi:Int} {q:Unit} (h:Qwe l hi=some q) : 0≤hi:=by rw [Xcp h];omega
theorem Xk6 (f : α→β) {hi:Int} {q:Unit} (h:Qwe l hi=some q) : hi≤(((l.map f).length:Nat) : Int):=by rw [Xcp h,List.length_map];exact Int.le_refl _
theorem Qep {xs:List β} {n:Nat} (h:n=xs.length) : xs.take n=xs:=by rw [h,List.take_length]
theorem Qc8 {xs:List (List AV)} {n:Nat} (h:n=xs.length) (ht:Qa1 xs=true) : Qa1 (xs.take n)=true:=by rw [h,List.take_length];exact ht
theorem adT {xs:List β} {n:Nat} {ys:List β} (h:n=xs.length) : xs.take n++ys=xs++ys:=by rw [h,List.take_length]
theorem adB (f : α→β) {x c : β} {k:Nat} {y : α} (h:app l [y]=some l') {b:Nat} (hb:b≤128) : ((l.map f).set k c++[x]).length * b≤140737488355328:=by
 have:=apB f (x:=x) h hb
 simpa using this
theorem adC (f : α→β) {x c : β} {k:Nat} {y : α} (h:app l [y]=some l') : ((l.map f).set k c++[x]).length≤140737488355328:=by
 have:=apC f (x:=x) h
 simpa using this
theorem adG (f : α→β) {x c : β} {k:Nat}:((l.map f).set k c++[x])[l.length]? = some x:=by
 rw [List.getElem?_append_right (by simp)];simp
theorem adS (f : α→β) {x c : β} {y e : α} (h:app l [y]=some l') (hk:rd l i=some e) : ((l.map f).set i.toNat c++[x]).set l.length (f y)=(l'.map f).set i.toNat c:=by
 have hi:=(List.getElem?_eq_some_iff.1 (rdE hk)).1
 rw [← Xeu h,List.set_append_right _ _ (by simp),List.map_append,List.set_append_left _ _ (by simpa using hi)]
 simp
theorem adL (f : α→β) {x c : β} {k:Nat} {y : α} (h:app l [y]=some l') : List.length ((l.map f).set k c++[x])=List.length ((l'.map f).set k c):=by
 rw [← Xeu h];simp
end
section
open Go.RowKit
end
def eqv {α:Type} [DecidableEq α] (a b : α) : Option Unit:=if a=b then some () else none
theorem Xlb {α:Type} [DecidableEq α] {l:List α} {i:Int} {x y : α} {u:Unit} (h:rd l i=some y) (q:eqv y x=some u) : rd l i=some x:=by
 unfold eqv at q
 split at q
 ·rename_i e;rw [← e];exact h
 ·cases q
section
open Go.RowKit
def zAt (A:Option Addr) (i:Int) : Value:=.pointer (A.map fun a=>a.add i.toNat)
theorem zIdx {P:Program} {t el sz bt bt2:Nat} {z z2:List Value} {k:IntKind} (h1:Qi4 P t=some ⟨sz,bt,.slice el,z⟩) (h2:Qi4 P el=some ⟨1,bt2,.int k,z2⟩) {A:Option Addr} {l:List Int} {c:Nat} {i n:Int} (h:rd l i=some n) : IaS (PK.mk P (kv A l)) t (.lit (.slice A (List.length l) c)) (I i) (.lit (zAt A i)):=by
 refine ⟨.inl ⟨_,rfl⟩,.inl ⟨_,rfl⟩,_,rfl,fun u v hu hv B w hk=>?_⟩
 have hne:l≠[]:=by rintro rfl;simp [rd] at h
 rcases hk with hk | ⟨b,o,rfl,_,hat⟩
 ·exact absurd hk hne
 rw [Qtd hu rfl,Qtd hv rfl]
 have h0:=rd0 h
 have hlt:i<(l.length:Int):=by
  have:=(List.getElem?_eq_some_iff.1 (rdE h)).1
  omega
 refine ⟨zAt (some ⟨b,o,none⟩) i,w,?_,VEq.refl _,.inl rfl⟩
 simp only [Instr.indexAt,asIntOf,Sem.run_bind,Sem.run_pure,Result.andThen_ok,run_underlying (Qas h1)]
 simp [h0,hlt,Qco h2,zAt]
theorem zLd {P:Program} {t bt:Nat} {z:List Value} (h1:Qi4 P t=some ⟨1,bt,.int .u8,z⟩) {A:Option Addr} {l:List Int} {i n:Int} (h:rd l i=some n) : LdS (PK.mk P (kv A l)) t (.lit (zAt A i)) (IK .u8 n):=by
 refine ⟨.inl ⟨_,rfl⟩,_,rfl,fun u hu B w hk=>?_⟩
 rw [Qtd hu rfl]
 have hne:l≠[]:=by rintro rfl;simp [rd] at h
 rcases hk with hk | ⟨b,o,rfl,_,hat⟩
 ·exact absurd hk hne
 refine ⟨.int .u8 n,w,?_,VEq.refl _,.inl rfl⟩
 have hc:=hat i.toNat (.int .u8 n) (by rw [List.getElem?_map,rdE h];rfl)
 show (Instr.loadAt t (zAt (some ⟨b,o,none⟩) i)).run P w=_
 simp only [zAt,Option.map_some,Instr.loadAt,Instr.sureAddr,Sem.run_bind,Sem.run_pure,Result.andThen_ok,loadVar,Qlw (Qas h1)]
 have ea:(⟨b,o,none⟩ : Addr).add i.toNat=⟨b,o+i.toNat,none⟩:=by unfold Addr.add;split <;> simp_all
 rw [ea]
 simp [Xh4,hc]
end
end Go.T
set_option linter.unusedVariables false
namespace Go.T
open Go
theorem Qdl {n:Int} (h : -9223372036854775808≤n∧n<9223372036854775808) : w64 n=n:=by
 show IntKind.i64.wrap n=n
 rw [IntKind.wrap_i64];omega
theorem Qff {k:Nat} (h:k<4611686018427387904) : w64 ((k:Int)+1)=((k+1:Nat) : Int):=by rw [Qdl (by omega)];omega
section
variable {α β:Type}
theorem Qdn {l:List α} {k:Nat} (h:k<l.length) : rd l (k:Int)=some l[k]:=by simp [rd,h]
theorem Qmw {l:List α} {k:Nat}:rd l (k:Int)=l[k]?:=by simp [rd]
theorem Qyu {l:List α} {i:Int} {x : α} (h0 : 0≤i) (h:l[i.toNat]? = some x) : rd l i=some x:=by simp [rd,h0,h]
theorem Qzf {k:Nat} {v:Vector α k} {i:Nat} (h:i<k) : rdv v (i:Int)=some v[i]:=by simp [rdv,h]
theorem Qdm {a b:List α} (h:a.length+b.length<1099511627776) : app a b=some (a++b):=by simp [app,h]
theorem Xb8 {z : α} {n:Nat} (h:n<1099511627776) : mk z (n:Int)=some (List.replicate n z):=by
 unfold mk;rw [if_pos (by omega)];rfl
theorem Xfi {l:List α} {k:Nat} (h:k≤l.length) : slc l 0 (k:Int)=some (l.take k):=by
 unfold slc;rw [if_pos (by omega)];simp [List.take_of_length_le]
theorem Xfl {l:List α} {k:Nat} (h:k≤l.length) : slc l (k:Int) (l.length:Int)=some (l.drop k):=by
 unfold slc;rw [if_pos (by omega)];simp [List.take_of_length_le]
theorem ltD {a b:Nat}:(decide ((a:Int)<(b:Int)))=decide (a<b):=by
 by_cases h:a<b
 ·rw [decide_eq_true (by omega),decide_eq_true h]
 ·rw [decide_eq_false (by omega),decide_eq_false h]
end
theorem Qeg {n:Nat} (h:n<1099511627776) : n<FU:=by rw [FU_eq];omega
def tbl {α:Type} (f:Nat→α) (n:Nat) : List α:=(List.range n).map f
section
variable {α:Type} {f g:Nat→α} {n:Nat}
theorem Qn2:(tbl f n).length=n:=by simp [tbl]
theorem Qrw {k:Nat} (h:k<n) : rd (tbl f n) (k:Int)=some (f k):=by rw [Qmw];simp [tbl,h]
theorem Qyp {k:Nat} (h:k<n) : (tbl f n)[k]? = some (f k):=by simp [tbl,h]
theorem Qj9 (h : ∀ k,k<n→f k=g k) : tbl f n=tbl g n:=List.map_congr_left (fun k hk=>h k (List.mem_range.1 hk))
theorem Qw0 {i:Nat} {x : α}:(tbl f n).set i x=tbl (fun j=>if j=i then x else f j) n:=by
 apply List.ext_getElem?
 intro k
 rw [List.getElem?_set]
 by_cases hk:k<n
 ·rw [Qyp hk,Qyp hk,Qn2]
  by_cases h:i=k
  ·subst h;simp [hk]
  ·have h' : ¬ k=i:=fun e=>h e.symm
   simp [h,h']
 ·have h1:(tbl f n)[k]? = none:=List.getElem?_eq_none (by rw [Qn2];omega)
  have h2:(tbl (fun j=>if j=i then x else f j) n)[k]? = none:=List.getElem?_eq_none (by rw [Qn2];omega)
  rw [h1,h2,Qn2]
  split <;> simp;omega
theorem Xc4 {x : α}:List.replicate n x=tbl (fun _=>x) n:=by
 apply List.ext_getElem?
 intro k
 by_cases hk:k<n
 ·rw [Qyp hk];simp [hk]
 ·rw [List.getElem?_eq_none (by simp;omega),List.getElem?_eq_none (by rw [Qn2];omega)]
end
theorem PS:(∀ {a b:Nat},decide ((a:Int)<(b:Int))=decide (a<b))∧(∀ (h:Decidable True),@decide True h=true)∧(∀ (h:Decidable False),@decide False h=false)
  ∧ (∀ {β:Type} (h:Decidable True) (x y : β),@ite β True h x y=x)∧(∀ {β:Type} (h:Decidable False) (x y : β),@ite β False h x y=y)∧((false=true)=False)∧((true=false)=False)
  ∧ (∀ {α β:Type} (a : α) (f : α→Option β),(some a).bind f=f a)∧((!true)=false)∧((!false)=true)∧(∀ n:Nat,((n:Int)).toNat=n)∧(∀ {α:Type} [BEq α] [LawfulBEq α] (a : α),(a == a)=true)∧(∀ {α:Type} [BEq α] [LawfulBEq α] (a : α),(a != a)=false):=
 ⟨ltD,fun h=>decide_true h,fun h=>decide_false h,fun h x y=>if_pos trivial,fun h x y=>if_neg id,Bool.false_eq_true,Bool.true_eq_false,fun a f=>rfl,rfl,rfl,Int.toNat_natCast,fun a=>beq_self_eq_true a,fun a=>bne_self_eq_false a⟩
end Go.T
set_option linter.unusedVariables false
namespace Go.T
open Go
section
variable {α:Type}
theorem findL {p:List α} {t : α→Option Bool} {q : α→Bool} {F:Nat→Int→Option Int}
  (hF : ∀ n v,F (n+1) v=if (decide (v<(p.length:Int)))=true then Option.bind (rd p v) fun x=>Option.bind (t x) fun r=>if r=true then some v else F n (w64 (v+1)) else some (-1))
  (hp:p.length<1099511627776) (ht : ∀ x∈p,t x=some (q x)) : ∃ r:Int,F FU 0=some r∧decide (r ≥ 0)=p.any q:=by
 have key : ∀ (n k:Nat),k≤p.length→p.length<n+k→∃ r:Int,F n k=some r∧decide (r ≥ 0)=(p.drop k).any q:=by
  intro n
  induction n with
  | zero=>intro k h1 h2;omega
  | succ n ih =>
   intro k h1 h2
   rw [hF]
   by_cases hk:k<p.length
   ·rw [List.drop_eq_getElem_cons hk,List.any_cons]
    obtain ⟨r,e1,e2⟩:=ih (k+1) hk (by omega)
    simp only [PS,hk,Qdn hk,ht _ (List.getElem_mem hk),Qff (k:=k) (by omega),e1]
    cases q p[k]
    ·exact ⟨r,by simp,by simpa using e2⟩
    ·exact ⟨k,by simp,by simp⟩
   ·have:k=p.length:=by omega
    subst this
    exact ⟨-1,by simp,by simp⟩
 simpa using key FU 0 (by omega) (by have:=Qeg hp;omega)
end
theorem Qsa (x:Nat) : Qd9 x x=none∨Qd9 x x=some .eq:=by
 unfold Qd9 Ieee.Format.order
 generalize FloatKind.f64.format.read x=d
 cases d with
 | nan=>left;rfl
 | infinity s=>right;cases s <;> rfl
 | number s m e =>
  right
  simp only [Ieee.Datum.order]
  have : ∀ z:Int,compare z z = .eq:=fun z=>by simp [Std.ReflCmp.compare_self]
  rw [this]
end Go.T
