/- Lemmas for FnExactPreemptsIn; no condition. -/

import Derived.Test.YtemmdkcpcjidmaaGreatBM
import Derived.Laws.Cover3
import Derived.KernelRfl
import Derived.Laws.StructEq
import Derived.Laws.Externs
import Derived.ChangeKeysEq
import Derived.WalkKit
import Derived.Laws.Cover2
import Derived.Laws.FloatArith
set_option linter.unusedVariables false
namespace Go.T
open Go Go.RowKit Go.Proofs
theorem Xm5 {P:Program} {w:World} {t el:Nat} {A:Option Addr} {len cap:Nat} {X Y:Operand} (ht:P.underlying t=some (.slice el)) :
  (do eqGuard .eql t X Y (.slice A len cap) (.slice none 0 0);binOp .eql t (.slice A len cap) (.slice none 0 0) : Sem Value).run P w = .ok (.bool A.isNone) w:=by
 have h1:(eqGuard .eql t X Y (.slice A len cap) (.slice none 0 0) : Sem Unit).run P w = .ok () w:=by simp [eqGuard]
 have h2:=run_equal_slice_nil w t el A len cap ht
 simp only [binOp]
 simp [h1,h2]
def Qpf (Θ:Tys) (P:PK) (n:Nat) (ops:Array Oper) : List Oper→Nat→St→List Hn→Option (Nat×St×Nat×List (List AV)×List Hn×List Prop)
 | [],_,_,_=>none
 | [o],k,s,hs=>match o.guard,o.dst,o.op with
  | none,some d,.binOp .eql t x y _=>if d<n then match Θ.lookup t,Qat s x,Qat s y with
   | some ⟨_,_,.slice _,_⟩,.ro _ xs,.lit (.slice none 0 0)=>some (k+1,s,d,xs,hs,[])
   | _,_,_=>none
   else none
  | _,_,_=>none
 | o :: rest,k,s,hs=>match o.guard with
  | none=>match ex1 Θ P n s o (pop k hs).1 with
   | some (s2,qs)=>match Qpf Θ P n ops rest (k+1) s2 (pop k hs).2 with
    | some (k',s3,d,xs,hs3,rs)=>some (k',s3,d,xs,hs3,qs++rs)
    | none=>none
   | none=>none
  | some _=>none
theorem Qq0 {E:Env} {Θ:Tys} (hΘ:TOK E.P Θ) {ops:Array Oper} {K:St→Prop} : ∀ {l:List Oper} {k k' d:Nat} {s s':St} {xs:List (List AV)} {hs hs':List Hn} {ps:List Prop},Qpf Θ E.pk E.n ops l k s hs=some (k',s',d,xs,hs',ps)→Qam ps→(∀ c:Bool,(c=true→xs=[])→K (s'.put d (.lit (.bool c))))→RW E ops l s K
 | [],k,k',d,s,s',xs,hs,hs',ps,h,hp,hk=>by simp [Qpf] at h
 | [o],k,k',d,s,s',xs,hs,hs',ps,h,hp,hk=>by
  simp only [Qpf] at h
  split at h
  case h_2=>cases h
  rename_i d0 t x y sg hg hdst hop
  split at h
  case isFalse=>cases h
  rename_i hd
  split at h
  case h_2=>cases h
  rename_i ti hti hx hy
  cases h
  intro a w Q hrel hq
  refine wpList_plain hg (fun K' hK'=>?_)
  obtain ⟨χ,hdd,h0⟩:=hrel
  have rx:=Qar h0 x
  have ry:=Qar h0 y
  rw [hx] at rx
  rw [hy] at ry
  have ry:=Qh7 ry
  simp only [repR,rep] at rx
  obtain ⟨_,A,cap,hu,hc,hxs⟩:=rx
  refine Qel (w':=w) (v:=.bool A.isNone) ?_ (hK' _ _ (wpList_nil (hq (s.put d (.lit (.bool A.isNone))) _ _ (hk A.isNone fun hn=>?_) ?_)))
  ·obtain ⟨dst,op',type,pos,after,guard⟩:=o
   simp only at hop
   subst hop
   simp only [execOp,hu,ry]
   rw [Sem.run_bind,Xm5 (Qaq (hΘ.get hti))]
   rfl
  ·rcases hxs with h | ⟨b,o,vs,h,_⟩
   ·exact h
   ·subst h;cases hn
  ·rw [hdst]
   exact ⟨χ,hdd,h0.put hd (Qd5 _)⟩
 | o :: o2 :: rest,k,k',d,s,s',xs,hs,hs',ps,h,hp,hk=>by
  simp only [Qpf] at h
  split at h
  case h_2=>cases h
  rename_i hg
  split at h
  case h_2=>cases h
  rename_i s2 qs he
  split at h
  case h_2=>cases h
  rename_i hr
  cases h
  obtain ⟨h1,h2⟩:=Qaz hp
  exact rw_op hg (Qzo hΘ he h1) (Qq0 hΘ hr h2 hk)
def Xjp (Θ:Tys) (P:PK) (n:Nat) (body:Code) (pt p:List Bool) (s:St) (hs:List Hn) : Option (Option (List Bool)×St×Nat×List (List AV)×List Prop):=
 match Xcf Θ P n body (some p) 10000 true (some pt) 0 s hs with
 | some (k,s1,hs1,ps)=>match cAt body p with
  | some (.region _ ops false)=>match ghs k hs1 s1 with
   | some (s2,hs2,qs)=>match Qpf Θ P n ops ops.toList k s2 hs2 with
    | some (_,s3,d,xs,[],rs)=>some (nxt body p,s3,d,xs,ps++(qs++rs))
    | _=>none
   | none=>none
  | _=>none
 | none=>none
theorem Xgk {E:Env} {Θ:Tys} (hΘ:TOK E.P Θ) (hm:E.P.follows .mixedOrders=true) {body:Code} {R:St→Prop} {P:PK} (hP:E.pk=P) {n:Nat} (hn:E.n=n) {pt p q:List Bool} {s s':St} {hs:List Hn} {d:Nat} {xs:List (List AV)} {ps:List Prop}
  (h:Xjp Θ P n body pt p s hs=some (some q,s',d,xs,ps)) (hp:Qam ps) (hk : ∀ c:Bool,(c=true→xs=[])→WAt E body (FQ R) q (s'.put d (.lit (.bool c)))) : WAt E body (FQ R) pt s:=by
 subst hP;subst hn
 unfold Xjp at h
 split at h
 case h_2=>cases h
 rename_i k s1 hs1 qs he
 split at h
 case h_2=>cases h
 rename_i id ops hc
 split at h
 case h_2=>cases h
 rename_i s2 hs2 rs hg
 split at h
 case h_2=>cases h
 rename_i k3 s3 d3 xs3 us ho
 rw [Option.some.injEq,Prod.mk.injEq,Prod.mk.injEq,Prod.mk.injEq,Prod.mk.injEq] at h
 obtain ⟨hq,rfl,rfl,rfl,rfl⟩:=h
 obtain ⟨h1,h2⟩:=Qaz hp
 obtain ⟨h3,h4⟩:=Qaz h2
 refine Qfa hΘ hm he h1 ?_
 show WAt E body (FQ R) p s1
 refine Qt7 hc (by simp) (Qua (Qia hg h3) (Xh6 (Qq0 hΘ ho h4 fun c hcc=>Qi5 ?_)))
 rw [hq]
 exact hk c hcc
end Go.T
set_option linter.unusedVariables false
namespace Go.T
open Go Go.RowKit Go.Proofs
abbrev I (n:Int) : AV:=.lit (.int .i64 n)
abbrev IK (k:IntKind) (n:Int) : AV:=.lit (.int k n)
abbrev B (b:Bool) : AV:=.lit (.bool b)
abbrev w64 (n:Int) : Int:=IntKind.i64.wrap n
theorem Xoz : ∃ n:Nat,n=4611686018427387904:=⟨_,rfl⟩
noncomputable def FU:Nat:=Xoz.choose
theorem FU_eq:FU=4611686018427387904:=Xoz.choose_spec
theorem bnS {α β:Type} {o:Option α} {f : α→Option β} {r : β} (h:o.bind f=some r) : ∃ x,o=some x∧f x=some r:=by
 cases o with
 | none=>simp at h
 | some x=>exact ⟨x,rfl,h⟩
theorem itS {β:Type} {b:Bool} {x y:Option β} {r : β} (h:(if b=true then x else y)=some r) : (b=true∧x=some r)∨(b=false∧y=some r):=by
 cases b
 ·right;exact ⟨rfl,by simpa using h⟩
 ·left;exact ⟨rfl,by simpa using h⟩
open Classical in
noncomputable def Xnc {α:Type} (x y:Option α) : Option α:=if x=y then x else none
theorem bothE {α:Type} {x y:Option α} {r : α} (h:Xnc x y=some r) : x=some r∧y=some r:=by
 unfold Xnc at h
 split at h
 ·rename_i e;subst e;exact ⟨h,h⟩
 ·cases h
noncomputable def Xkc {α β:Type} (xs:List α) (X Y:Option β) : Option β:=if xs.isEmpty=true then Xnc X Y else Y
theorem Xl7 {α β:Type} {xs:List α} {X Y:Option β} {r : β} (h:Xkc xs X Y=some r) : (xs=[]→X=some r)∧Y=some r:=by
 unfold Xkc at h
 split at h
 ·obtain ⟨h1,h2⟩:=bothE h;exact ⟨fun _=>h1,h2⟩
 ·rename_i hn;exact ⟨fun e=>by subst e;exact absurd rfl hn,h⟩
abbrev Str:=List UInt8
def sK (l:Str) : ByteArray:=⟨l.toArray⟩
abbrev SK (l:Str) : AV:=.lit (.string (sK l))
abbrev FK (n:Nat) : AV:=.lit (.float .f64 n)
def nz (b:Int) : Option Unit:=if b=0 then none else some ()
theorem nzE {b:Int} {u:Unit} (h:nz b=some u) : b≠0:=by unfold nz at h;split at h;cases h;assumption
def Qwa (k:IntKind) (a b:Int) : Int:=k.wrap (BitVec.ofInt k.bits a &&& ~~~BitVec.ofInt k.bits b).toNat
def rd {α:Type} (l:List α) (i:Int) : Option α:=if 0≤i then l[i.toNat]? else none
section
variable {α β:Type} {l:List α} {i:Int} {e : α}
theorem rd0 (h:rd l i=some e) : 0≤i:=by unfold rd at h;split at h;assumption;cases h
theorem rdE (h:rd l i=some e) : l[i.toNat]? = some e:=by unfold rd at h;split at h;exact h;cases h
theorem rdM (f : α→β) (h:rd l i=some e) : (l.map f)[i.toNat]? = some (f e):=by rw [List.getElem?_map,rdE h];rfl
theorem rdL (f : α→β) (h:rd l i=some e) : i<((l.map f).length:Int):=by
 have h1:=rd0 h
 have h2:=(List.getElem?_eq_some_iff.1 (rdE h)).1
 rw [List.length_map]
 omega
theorem Qw5 (f : α→β) {y : α}:(l.map f).set i.toNat (f y)=(l.set i.toNat y).map f:=List.map_set.symm
theorem setMr (f : α→β) {y : α} {ys : β} (h:ys=f y) : (l.map f).set i.toNat ys=(l.set i.toNat y).map f:=by rw [h];exact List.map_set.symm
theorem lnSet (f : α→β) {n:Nat} {y : α}:(l.map f).length=((l.set n y).map f).length:=by simp
theorem Xo3 (f : α→β) {n m:Nat} {x y : α}:((l.set n x).map f).length=((l.set m y).map f).length:=by simp
theorem Xnd {xs:List β} {n m:Nat} {x y : β} (hne:n≠m) (h:xs[m]? = some x) : (xs.set n y)[m]? = some x:=by rw [List.getElem?_set_ne hne];exact h
theorem Qrx (f : α→β) {n:Nat} {y : β} (h:rd l i=some e) : i<((((l.map f).set n y).length:Nat) : Int):=by rw [List.length_set];exact rdL f h
theorem rdL2 (f : α→β) {n m:Nat} {y z : β} (h:rd l i=some e) : i<(((((l.map f).set n y).set m z).length:Nat) : Int):=by rw [List.length_set,List.length_set];exact rdL f h
theorem setP2 (f : α→β) {x1 x2 : β} {y : α} {n m:Nat} (hne:n≠m) : ((((l.map f).set n x1).set m x2).set m (f y))=((l.set m y).map f).set n x1:=by
 rw [List.set_set,List.set_comm _ _ hne,List.map_set]
theorem Xkd {n:Nat} {y : β} {l:List β} (h:l[n]? = some y) : l.set n y=l:=by
 apply List.ext_getElem?
 intro k
 rw [List.getElem?_set]
 split
 ·rename_i e;subst e
  split
  ·exact h.symm
  ·rename_i h2;rw [List.getElem?_eq_none (by omega)] at h;cases h
 ·rfl
theorem Xds (f : α→β) {x : β} {y : α} (h:rd l i=some y) : ((l.map f).set i.toNat x).set i.toNat (f y)=l.map f:=by
 rw [List.set_set,← List.map_set,Xkd (rdE h)]
theorem Xf8 (f : α→β) {x1 x2 : β} {y : α} {n:Nat} (hne:n≠i.toNat) (h:rd l i=some y) : ((((l.map f).set n x1).set i.toNat x2).set i.toNat (f y))=(l.map f).set n x1:=by
 rw [setP2 f hne,Xkd (rdE h)]
def nx1 (i:Int) : Option Unit:=if w64 (i+1)=i+1 then some () else none
theorem nx1E {q:Unit} (h:nx1 i=some q) : w64 (i+1)=i+1:=by unfold nx1 at h;split at h;assumption;cases h
def Qw7 (o r : α→List AV) (A X:List α) (n:Nat) : List (List AV):=A.map o++(X.drop n).map r
def Qro (l:List α) (hi:Int) : Option Unit:=if hi=(l.length:Int) then some () else none
theorem Xb5 {A:List α} {q:Unit} (h:Qro A i=some q) : i=(A.length:Int):=by unfold Qro at h;split at h;assumption;cases h
def Xf9 (l:List α) (i:Int) : Option Unit:=if (l.length:Int)≤i then some () else none
section
variable {o r : α→List AV} {A:List α} {q q':Unit}
theorem mx0:l.map r=Qw7 o r [] l (Int.toNat 0):=by simp [Qw7]
theorem mxR (hq:Qro A i=some q) (h:rd l i=some e) : (Qw7 o r A l i.toNat)[i.toNat]? = some (r e):=by
 have e1:=Xb5 hq
 unfold Qw7
 rw [List.getElem?_append_right (by rw [List.length_map];omega)]
 simp only [List.length_map,List.getElem?_map,List.getElem?_drop]
 rw [show i.toNat+(i.toNat - A.length)=i.toNat by omega,rdE h];rfl
theorem mxLen (hq:Qro A i=some q) (h:rd l i=some e) : (Qw7 o r A l i.toNat).length=l.length:=by
 have e1:=Xb5 hq
 have h2:=(List.getElem?_eq_some_iff.1 (rdE h)).1
 unfold Qw7;simp;omega
theorem mxL (hq:Qro A i=some q) (h:rd l i=some e) : i<(((Qw7 o r A l i.toNat).length:Nat) : Int):=by
 have h1:=rd0 h
 have h2:=(List.getElem?_eq_some_iff.1 (rdE h)).1
 rw [mxLen hq h];omega
theorem mxS {x2 z:List AV} {y : α} (hq:Qro A i=some q) (h:rd l i=some e) (hn:nx1 i=some q') (hz:z=o y) : ((Qw7 o r A l i.toNat).set i.toNat x2).set i.toNat z=Qw7 o r (A++[y]) l (w64 (i+1)).toNat:=by
 have h1:=rd0 h
 have h2:=(List.getElem?_eq_some_iff.1 (rdE h)).1
 have e1:=Xb5 hq
 rw [List.set_set,hz,nx1E hn,show (i+1).toNat=i.toNat+1 by omega]
 unfold Qw7
 rw [List.set_append_right _ _ (by rw [List.length_map];omega),List.length_map,show i.toNat - A.length=0 by omega,List.drop_eq_getElem_cons h2,List.map_cons,List.set_cons_zero,List.map_append,List.append_assoc]
 rfl
theorem mxE (h:Xf9 l i=some q) : Qw7 o r A l i.toNat=A.map o:=by
 have:(l.length:Int)≤i:=by unfold Xf9 at h;split at h;assumption;cases h
 unfold Qw7
 rw [List.drop_of_length_le (by omega)];simp
theorem mxT (ht : ∀ x,Qcy (o x)=true) (hr : ∀ x,Qcy (r x)=true) {n:Nat}:Qa2 (Qw7 o r A l n)=true:=by
 unfold Qw7 Qa2
 rw [List.all_append,Bool.and_eq_true]
 constructor <;> (rw [List.all_eq_true];intro y hy;obtain ⟨x,_,rfl⟩:=List.mem_map.1 hy)
 ·exact ht x
 ·exact hr x
end
def neI (i j:Int) : Option Unit:=if i=j then none else some ()
theorem neN {a b:Int} {u:Unit} (h:neI a b=some u) (ha : 0≤a) (hb : 0≤b) : a.toNat≠b.toNat:=by
 unfold neI at h
 split at h
 ·cases h
 ·omega
theorem rok {π:List (Nat×Nat)} {xs:List (List AV)} (h:Qa2 xs=true) : Qa8 π xs:=.inl h
theorem Qzz {π:List (Nat×Nat)} {xs:List (List AV)} {n:Nat} {x:List AV} (h:Qa8 π xs) (hx:Xeo π x=x) : Qa8 π (xs.set n x):=.inr (by
  have h1:=h.eq
  unfold Qtg at h1 ⊢
  rw [List.map_set,h1,hx])
theorem setSS (f : α→β) {x y : α} {ys : β} (h:ys=f y) : ((l.set i.toNat x).map f).set i.toNat ys=(l.set i.toNat y).map f:=by rw [h,← List.map_set,List.set_set]
theorem rdS {x y : α} (h:rd l i=some x) : rd (l.set i.toNat y) i=some y:=by
 unfold rd at h ⊢
 split at h
 ·rename_i h0
  rw [if_pos h0,List.getElem?_set_self (List.getElem?_eq_some_iff.1 h).1]
 ·cases h
theorem pkS {j a b:Nat} (h:a=b) : some (AV.sl j 0 a)=some (AV.sl j 0 b):=by rw [h]
theorem Qcc {y : β} {xs:List β} {n:Nat} {x : β} (h:xs[n]? = some x) : (xs.set n y)[n]? = some y:=by
 have:=(List.getElem?_eq_some_iff.1 h).1
 rw [List.getElem?_set_self this]
theorem Qby (f : α→β) : AV.lit (.int .i64 ((l.map f).length:Nat))=AV.lit (.int .i64 (l.length:Nat)):=by rw [List.length_map]
def app (l1 l2:List α) : Option (List α):=if l1.length+l2.length<1099511627776 then some (l1++l2) else none
variable {l1 l2:List α}
theorem Xhy (h:app l1 l2=some l) : l1++l2=l:=by unfold app at h;split at h;cases h;rfl;cases h
theorem Xny (h:app l1 l2=some l) : l.length<1099511627776:=by
 unfold app at h;split at h
 ·cases h;rw [List.length_append];assumption
 ·cases h
theorem Xlw (f : α→β) (h:app l1 l2=some l) : (l1.map f).take (l1.map f).length++l2.map f=l.map f:=by
 rw [List.take_length,← Xhy h,List.map_append]
theorem Qn2 (f : α→β) (h:app l1 l2=some l) {b:Nat} (hb:b≤128) : (l.map f).length * b≤140737488355328:=by
 have:=Xny h
 rw [List.length_map]
 calc l.length * b≤1099511627776 * 128:=Nat.mul_le_mul (by omega) hb
  _=140737488355328:=rfl
theorem Qn1 (f : α→β) (h:app l1 l2=some l) : (l.map f).length≤140737488355328:=by
 have:=Xny h
 rw [List.length_map];omega
theorem plM {f : α→List AV} (h : ∀ x,(f x).all AV.plain=true) : (l.map f).all (fun r=>r.all AV.plain)=true:=by
 rw [List.all_eq_true]
 intro y hy
 obtain ⟨x,_,rfl⟩:=List.mem_map.1 hy
 exact h x
theorem Qix (f : α→β) (h:app l1 l2=some l) : (l1.map f).take (List.length (l1.map f))++(((l2.map f).drop 0).take (List.length (l2.map f)))=l.map f:=by
 rw [List.drop_zero,List.take_length,List.take_length,← Xhy h,List.map_append]
theorem plD {f : α→List AV} (h : ∀ x,(f x).all AV.plain=true) {a n:Nat}:(((l.map f).drop a).take n).all (fun r=>r.all AV.plain)=true:=by
 rw [← List.map_drop,← List.map_take];exact plM h
theorem apT (f : α→β) {x : β}:(l.map f).take (l.map f).length++[x]=l.map f++[x]:=by rw [List.take_length]
theorem apB (f : α→β) {x : β} {y : α} {l':List α} (h:app l [y]=some l') {b:Nat} (hb:b≤128) : (l.map f++[x]).length * b≤140737488355328:=by
 have:=Qn2 f h hb
 rw [← Xhy h,List.length_map,List.length_append] at this
 rw [List.length_append,List.length_map];exact this
theorem apC (f : α→β) {x : β} {y : α} {l':List α} (h:app l [y]=some l') : (l.map f++[x]).length≤140737488355328:=by
 have:=Qn1 f h
 rw [← Xhy h,List.length_map,List.length_append] at this
 rw [List.length_append,List.length_map];exact this
theorem apG (f : α→β) {x : β}:(l.map f++[x])[l.length]? = some x:=by
 rw [List.getElem?_append_right (by simp)];simp
theorem apS (f : α→β) {x : β} {y : α} {l':List α} (h:app l [y]=some l') : (l.map f++[x]).set l.length (f y)=l'.map f:=by
 rw [← Xhy h,List.set_append_right _ _ (by simp)]
 simp
theorem apLn (f : α→β) {x : β} {y : α} {l':List α} (h:app l [y]=some l') : List.length (l.map f++[x])=List.length (l'.map f):=by
 rw [← Xhy h];simp
theorem rsW {τ:List (Nat×Qas)} {xs zs:List (List AV)} (h:Qt9 τ xs=some zs) : Qt9 τ ((xs.drop 0).take xs.length)=some zs:=by simpa using h
theorem rsWn {τ:List (Nat×Qas)} {xs zs:List (List AV)} {n:Nat} (hn:n=xs.length) (h:Qt9 τ xs=some zs) : Qt9 τ ((xs.drop 0).take n)=some zs:=by subst hn;simpa using h
theorem Xk9 {τ:List (Nat×Qas)} {T:Type} {o r:T→List AV} (ht : ∀ x,Qcy (o x)=true) (hz : ∀ x,Qjr (o x)=r x) {X:List T} {e:Nat} {c:List AV} {y:T} (hc:rsL τ c=some (r y)) : Qt9 τ ((X.map o).set e c)=some ((X.set e y).map r):=by
 rw [List.map_set]
 exact Xbz hc (Qlb ht hz X)
theorem Xjy {τ:List (Nat×Qas)} {j n:Nat} {R:Qas} {zs:List (List AV)} (h : τ.lookup j=some R) (hw:Frz ((R.xs.drop 0).take n) zs) : rs1 τ (.sl j 0 n)=some (.ro R.sz zs):=by
 unfold rs1
 rw [if_neg (by simp [Qzi])]
 simp only [h]
 rw [if_pos hw.1,hw.2]
theorem Qtp {τ:List (Nat×Qas)} {c d:AV} {cs ds:List AV} (h1:rs1 τ c=some d) (h2:rsL τ cs=some ds) : rsL τ (c :: cs)=some (d :: ds):=by simp only [rsL,h1,h2]
def mk (z : α) (n:Int) : Option (List α):=if 0≤n∧n<1099511627776 then some (List.replicate n.toNat z) else none
variable {n:Int} {z : α}
theorem mkI (h:mk z n=some l) : 0≤n∧n<1099511627776∧List.replicate n.toNat z=l:=by
 unfold mk at h;split at h
 ·cases h;rename_i hh;exact ⟨hh.1,hh.2,rfl⟩
 ·cases h
theorem mkM (f : α→β) (h:mk z n=some l) : List.replicate n.toNat (f z)=l.map f:=by rw [← (mkI h).2.2,List.map_replicate]
theorem mk0 (h:mk z n=some l) : 0≤n:=(mkI h).1
theorem mkB (h:mk z n=some l) {b:Nat} (hb:b≤128) : n * (b:Int)≤140737488355328:=by
 obtain ⟨h1,h2,_⟩:=mkI h
 calc n * (b:Int)≤1099511627776 * 128:=Int.mul_le_mul (by omega) (by omega) (by omega) (by omega)
  _=140737488355328:=rfl
theorem mkC (h:mk z n=some l) : n≤140737488355328:=by have:=(mkI h).2.1;omega
theorem mkS (f : α→β) (h:mk z n=some l) {id:Nat}:AV.sl id 0 n.toNat=AV.sl id 0 (List.length (l.map f)):=by
 rw [← (mkI h).2.2,List.length_map,List.length_replicate]
theorem Qfz (f : α→β) {x z : β} {y : α} {e:Nat} (h:z=f y) : ((l.map f).set e x).set e z=(l.set e y).map f:=by rw [h,List.set_set,List.map_set]
theorem setP (f : α→β) {x : β} {y : α} {e:Nat}:((l.map f).set e x).set e (f y)=(l.set e y).map f:=by rw [List.set_set,List.map_set]
def slc (l:List α) (lo hi:Int) : Option (List α):=if 0≤lo∧lo≤hi∧hi≤(l.length:Int) then some ((l.drop lo.toNat).take (hi.toNat - lo.toNat)) else none
variable {lo hi:Int} {l':List α}
theorem slI (h:slc l lo hi=some l') : 0≤lo∧lo≤hi∧hi≤(l.length:Int)∧(l.drop lo.toNat).take (hi.toNat - lo.toNat)=l':=by
 unfold slc at h;split at h
 ·cases h;rename_i hh;exact ⟨hh.1,hh.2.1,hh.2.2,rfl⟩
 ·cases h
theorem shT (f : α→β) (h:slc l 0 hi=some l') : (l.map f).take hi.toNat=l'.map f:=by
 obtain ⟨_,_,_,h4⟩:=slI h
 rw [← h4];simp
theorem sl0 (h:slc l lo hi=some l') : 0≤lo:=(slI h).1
theorem sl1 (h:slc l lo hi=some l') : lo≤hi:=(slI h).2.1
theorem sl2 (f : α→β) (h:slc l lo hi=some l') : hi≤((l.map f).length:Int):=by rw [List.length_map];exact (slI h).2.2.1
theorem sl1e (f : α→β) (h:slc l lo (l.length:Int)=some l') : lo≤((l.map f).length:Int):=by rw [List.length_map];exact (slI h).2.1
theorem winE (h:slc l lo hi=some l') : (l.drop lo.toNat).take (Xe9 hi.toNat lo.toNat)=l':=by rw [Xb9];exact (slI h).2.2.2
theorem winM (f : α→β) (h:slc l lo hi=some l') : ((l.map f).drop lo.toNat).take (Xe9 hi.toNat lo.toNat)=l'.map f:=by
 rw [← List.map_drop,← List.map_take,winE h]
theorem Xo0 (f : α→β) (h:slc l lo (l.length:Int)=some l') : ((l.map f).drop lo.toNat).take (Xe9 ((((l.map f).length:Nat) : Int)).toNat lo.toNat)=l'.map f:=by
 have:=winM f h
 rw [List.length_map];exact this
theorem Xeq (f : α→β) {l0:List α} (h:app l0 l'=some l2) (hs:slc l lo (l.length:Int)=some l') : (l0.map f).take (List.length (l0.map f))++(((l.map f).drop lo.toNat).take (Xe9 ((((l.map f).length:Nat) : Int)).toNat lo.toNat))=l2.map f:=by
 rw [Xo0 f hs,List.take_length,← Xhy h,List.map_append]
end
section
variable {α:Type} {l:List α}
theorem Qfx {o z : α→List AV} (ht : ∀ x,Qcy (o x)=true) (hz : ∀ x,Qjr (o x)=z x) : Frz (((l.map o).drop 0).take (l.map o).length) (l.map z):=by
 rw [List.drop_zero,List.take_length]
 refine ⟨?_,?_⟩
 ·rw [Qa2,List.all_eq_true]
  intro y hy
  obtain ⟨x,_,rfl⟩:=List.mem_map.1 hy
  exact ht x
 ·rw [Qv1,List.map_map]
  refine List.map_congr_left fun x _=>?_
  rw [← hz x,Qtz];rfl
theorem Qrd {o z : α→List AV} (hz : ∀ x,Qjr (o x)=z x) : Qqd (l.map o)=l.map z:=by
 rw [Qv1,List.map_map]
 refine List.map_congr_left fun x _=>?_
 rw [← hz x,Qtz];rfl
theorem Qab {o : α→List AV} (ht : ∀ x,Qcy (o x)=true) : Qa2 (l.map o)=true:=by
 rw [Qa2,List.all_eq_true]
 intro y hy
 obtain ⟨x,_,rfl⟩:=List.mem_map.1 hy
 exact ht x
theorem Qb7 {o : α→List AV} (ht : ∀ x,Qcy (o x)=true) : Qa2 ((l.map o).take (l.map o).length)=true:=by rw [List.take_length];exact Qab ht
theorem Qb6 {o : α→List AV}:(l.map o).take (l.map o).length=l.map o:=List.take_length
theorem Qai {o : α→List AV} (ht : ∀ x,Qcy (o x)=true) (x : α) : Qa2 [o x]=true:=by
 simp only [Qa2,List.all_cons,List.all_nil,ht x,Bool.and_true]
theorem Qlt {o : α→List AV} (hn : ∀ x,Qbm (o x)=true) (x : α) : Qa6 [o x]=true:=by simp only [Qa6,hn x,Bool.and_true]
theorem Xnq {o z : α→List AV} {lo:Int} {l':List α} (ht : ∀ x,Qcy (o x)=true) (hz : ∀ x,Qjr (o x)=z x) (h:slc l lo (l.length:Int)=some l') : Frz (((l.map o).drop lo.toNat).take (Xe9 ((((l.map o).length:Nat) : Int)).toNat lo.toNat)) (l'.map z):=by
 have:=Qfx (l:=l') ht hz
 rw [List.drop_zero,List.take_length] at this
 rw [Xo0 o h];exact this
theorem Qa9 {o : α→List AV} (hn : ∀ x,Qbm (o x)=true) : Qa6 (l.map o)=true:=by
 induction l with
 | nil=>rfl
 | cons x l ih=>simp only [List.map_cons,Qa6,hn x,ih,Bool.and_self]
end
section
variable {α:Type} {k:Nat} {v:Vector α k} {i:Int} {e : α}
end
section
variable {α:Type} {k s:Nat} {v:Vector α k} {i:Int} {x y : α} {o : α→List AV}
end
theorem frI {ks:List Bool} {fr:List Nat} {m:Nat} (h:((List.range ks.length).all fun i => !(ks[i]? == some true) || fr.contains i)=true) : ∀ i,i<m→ks[i]? = some true→i∈fr:=by
 intro i _ hk
 have hi:i<ks.length:=by
  rcases Nat.lt_or_ge i ks.length with h1 | h1
  ·exact h1
  ·rw [List.getElem?_eq_none_iff.2 h1] at hk;cases hk
 have:=List.all_eq_true.1 h i (List.mem_range.2 hi)
 rw [hk] at this
 simpa using this
def eqV (ti:Option TI) (u v:Value) : Option Bool:=
 match ti,u,v with
 | some ⟨_,_,.int _,_⟩,.int k a,.int k' b=>if k=k' then some (a == b) else none
 | some ⟨_,_,.bool,_⟩,.bool a,.bool b=>some (a == b)
 | some ⟨_,_,.string,_⟩,.string a,.string b=>some (a.toList == b.toList)
 | _,_,_=>none
def Xhv (Θ:Tys) : List Field→Nat→List Value→List Value→Option Bool
 | [],_,[],[]=>some true
 | f :: fs,off,u :: us,v :: vs=>if f.offset == off && f.name != "_" then match eqV (Θ.lookup f.type) u v,Xhv Θ fs (off+1) us vs with
  | some x,some y=>some (x && y)
  | _,_=>none
  else none
 | _,_,_,_=>none
theorem Qx6 {Θ:Tys} {P:Program} (hΘ:TOK P Θ) (w:World) (xs ys:Array Value) : ∀ (fs:List Field) (us vs:List Value) (off:Nat) (r:Bool),Xhv Θ fs off us vs=some r →
  (∀ k v,us[k]? = some v→xs[off+k]? = some v)→(∀ k v,vs[k]? = some v→ys[off+k]? = some v)→(Op.eqFields 9999 xs ys fs).run P w = .ok r w
 | [],[],[],off,r,he,hx,hy=>by simp only [Xhv] at he;cases he;simp [Op.eqFields]
 | f :: fs,[],_,off,r,he,hx,hy=>by simp [Xhv] at he
 | f :: fs,_ :: _,[],off,r,he,hx,hy=>by simp [Xhv] at he
 | [],_ :: _,_,off,r,he,hx,hy=>by simp [Xhv] at he
 | [],[],_ :: _,off,r,he,hx,hy=>by simp [Xhv] at he
 | f :: fs,u :: us,v :: vs,off,r,he,hx,hy=>by
  simp only [Xhv] at he
  split at he
  case isFalse=>cases he
  rename_i hf
  simp only [Bool.and_eq_true,beq_iff_eq,bne_iff_ne] at hf
  obtain ⟨h1,h2⟩:=hf
  split at he
  case h_2=>cases he
  rename_i x y hxy hr
  cases he
  have ax:xs[off]? = some u:=by simpa using hx 0 u rfl
  have ay:ys[off]? = some v:=by simpa using hy 0 v rfl
  have ih:=Qx6 hΘ w xs ys fs us vs (off+1) y hr (fun k v hk=>by rw [show off+1+k=off+(k+1) by omega];exact hx (k+1) v (by simpa using hk)) (fun k v hk=>by rw [show off+1+k=off+(k+1) by omega];exact hy (k+1) v (by simpa using hk))
  have key:P.plainKey f.type=true∧(Op.equalIn 9999 f.type u v).run P w = .ok x w:=by
   unfold eqV at hxy
   split at hxy
   ·rename_i hti
    have hu:=Qaq (hΘ.get hti)
    split at hxy
    ·rename_i hk;subst hk;cases hxy
     exact ⟨by simp [Program.plainKey,hu],run_equalIn_int w 9998 _ _ _ _ _ hu⟩
    ·cases hxy
   ·rename_i hti
    have hu:=Qaq (hΘ.get hti)
    cases hxy
    exact ⟨by simp [Program.plainKey,hu],run_equalIn_bool' w 9998 _ _ _ hu⟩
   ·rename_i hti
    have hu:=Qaq (hΘ.get hti)
    cases hxy
    exact ⟨by simp [Program.plainKey,hu],run_equalIn_string w 9998 _ _ _ hu⟩
   ·cases hxy
  simp only [Op.eqFields]
  rw [if_pos h2,h1]
  simp only [Sem.run_bind,run_part_plain w key.1 ax,run_part_plain w key.1 ay,Result.andThen_ok,key.2]
  cases x
  ·simp
  ·simpa using ih
theorem Qj2 {n:Nat} (h:Ql4 n=true) : ∃ s t,Ieee.double.read n = .nan s t:=by
 unfold Ql4 at h
 change (Ieee.Format.order Ieee.double n n).isNone=true at h
 unfold Ieee.Format.order at h
 generalize Ieee.double.read n=d at h
 cases d with
 | nan s t=>exact ⟨s,t,rfl⟩
 | infinity s=>simp [Ieee.Datum.order] at h
 | number s m i=>simp [Ieee.Datum.order] at h
theorem Xbq {n:Nat} {s:Bool} {t:Nat} (h:Ieee.double.read n = .nan s t) : Ql4 n=true:=by
 unfold Ql4
 show (Ieee.Format.order Ieee.double n n).isNone=true
 unfold Ieee.Format.order
 rw [h];rfl
theorem Xj9 {n:Nat} (h : 9218868437227405312<n % 9223372036854775808) : Ql4 n=true:=by
 have e:Ieee.double.read n = .nan (n / Ieee.double.signWeight % 2 == 1) (n % Ieee.double.signWeight - Ieee.double.infRung):=by
  unfold Ieee.Format.read
  have h1:Ieee.double.signWeight=9223372036854775808:=by decide +kernel
  have h2:Ieee.double.binade=4503599627370496:=by decide +kernel
  have h3:Ieee.double.infRung=9218868437227405312:=by decide +kernel
  simp only [h1,h2,h3]
  rw [if_neg (by omega),if_neg (by omega),if_neg (by omega)]
 exact Xbq e
theorem Xjb {x y t:Nat}:Ql4 ((Question.nanBits .f64 x y).cut t)=true:=by
 refine Xj9 ?_
 show 9218868437227405312<((t % 2) * 2 ^ 63+0x7ff0000000000000+1+(t / 2) % (2 ^ 52 - 1)) % 9223372036854775808
 have h1:(t / 2) % (2 ^ 52 - 1)<4503599627370495:=Nat.mod_lt _ (by decide)
 have h2:t % 2=0∨t % 2=1:=by omega
 rcases h2 with h2 | h2 <;> (rw [h2];omega)
def Xlm:Nat:=9221120237041090561
theorem Xoa:Ql4 Xlm=true:=by decide +kernel
def F1 (m n:Nat) : Prop:=m=n∨Ql4 m=true∧Ql4 n=true
theorem Xb8 {u:Value} {a:Nat} (h:IsV (FK a) u) : ∃ m,u = .float .f64 m∧F1 m a:=by
 rcases h with ⟨v,h1,h2⟩ | ⟨vs,us,h1,_⟩
 ·cases h1;exact h2.flt
 ·cases h1
theorem Xcl {x:AV} {u v:Value} (h:IsV x u) (hx:x = .lit v) (hn:nf v=true:=by rfl) : u=v:=by
 subst hx
 rcases h with ⟨v',h1,h2⟩ | ⟨vs,us,h1,_⟩
 ·cases h1;exact h2.eq hn
 ·cases h1
theorem Xhk {vs:List Value} {u:Value} (h:IsV (.agg (Qqr vs)) u) (hn:vs.all nf=true) : u = .agg vs.toArray:=by
 rcases h with ⟨v',h1,_⟩ | ⟨vs',us,h1,h2,h3⟩
 ·cases h1
 ·have e:Qqr vs=Qqr vs':=by simpa using h1
  have:vs=vs':=List.map_inj_right (f:=AV.lit) (fun x y hxy=>by cases hxy;rfl) |>.1 e
  subst this
  rw [h2,h3.eq hn]
theorem Qor {α:Type} {f:Ieee.Datum→Ieee.Datum→Option α} (hl : ∀ s t d,f (.nan s t) d=none) (hr : ∀ s t d,f d (.nan s t)=none) {a b a' b':Nat} (ha:F1 a a') (hb:F1 b b') :
  f (Ieee.double.read a) (Ieee.double.read b)=f (Ieee.double.read a') (Ieee.double.read b'):=by
 rcases ha with rfl | ⟨h1,h2⟩
 ·rcases hb with rfl | ⟨h1,h2⟩
  ·rfl
  ·obtain ⟨s,t,e1⟩:=Qj2 h1
   obtain ⟨s2,t2,e2⟩:=Qj2 h2
   rw [e1,e2,hr,hr]
 ·obtain ⟨s,t,e1⟩:=Qj2 h1
  obtain ⟨s2,t2,e2⟩:=Qj2 h2
  rw [e1,e2,hl,hl]
def Qci (a b:Nat) : Option Ordering:=FloatKind.f64.format.order a b
theorem Xes {a b a' b':Nat} (ha:F1 a a') (hb:F1 b b') : FloatKind.f64.format.order a b=Qci a' b':=
 Qor (f:=Ieee.Datum.order) (fun s t d=>by cases d <;> rfl) (fun s t d=>by cases d <;> rfl) ha hb
theorem Xh3 {P:Program} {t a b:Nat} {op:BinOp} {g:Option Ordering→Bool} (h : ∀ (m n:Nat) (w:World) (X Y:Operand),(do eqGuard op t X Y (.float .f64 m) (.float .f64 n);binOp op t (.float .f64 m) (.float .f64 n) : Sem Value).run P w = .ok (.bool (g (FloatKind.f64.format.order m n))) w) : Qgd P op t (FK a) (FK b) (B (g (Qci a b))):=by
 refine ⟨.inl ⟨_,rfl⟩,.inl ⟨_,rfl⟩,_,rfl,fun u v hu hv w X Y=>?_⟩
 obtain ⟨m,rfl,hm⟩:=Xb8 hu
 obtain ⟨n,rfl,hn⟩:=Xb8 hv
 exact ⟨_,w,h m n w X Y,by rw [Xes hm hn];exact VEq.refl _,.inl rfl⟩
theorem Xfi {P:Program} {t a b:Nat}:Qgd P .eql t (FK a) (FK b) (B (Qci a b == some .eq)):=Xh3 (g:=fun c=>c == some .eq) fun m n w X Y=>by simp [eqGuard,binOp,Op.floatCmp]
theorem Xio {P:Program} {t a b:Nat}:Qgd P .neq t (FK a) (FK b) (B (Qci a b != some .eq)):=Xh3 (g:=fun c=>c != some .eq) fun m n w X Y=>by simp [eqGuard,binOp,Op.floatCmp]
theorem Xk8 {P:Program} {t a b:Nat}:Qgd P .lss t (FK a) (FK b) (B (Qci a b == some .lt)):=Xh3 (g:=fun c=>c == some .lt) fun m n w X Y=>by simp [eqGuard,binOp,Op.floatCmp]
theorem fGtr {P:Program} {t a b:Nat}:Qgd P .gtr t (FK a) (FK b) (B (Qci a b == some .gt)):=Xh3 (g:=fun c=>c == some .gt) fun m n w X Y=>by simp [eqGuard,binOp,Op.floatCmp]
theorem fGeq {P:Program} {t a b:Nat}:Qgd P .geq t (FK a) (FK b) (B (Qci a b == some .gt || Qci a b == some .eq)):=Xh3 (g:=fun c=>c == some .gt || c == some .eq) fun m n w X Y=>by simp [eqGuard,binOp,Op.floatCmp]
theorem Xll (l:Str) : (sK l).toList=l:=by unfold sK;exact ByteArray.toList_mk l
theorem Xii {P:Program} {op:BinOp} {t:Nat} {x y v:Value} (h:Qqz op x y=some v) : Qgd P op t (.lit x) (.lit y) (.lit v):=
  ⟨.inl ⟨_,rfl⟩,.inl ⟨_,rfl⟩,_,rfl,fun u u' hu hv w X Y=>by
    rw [Xcl hu rfl (Qty h).1,Xcl hv rfl (Qty h).2]
    exact ⟨_,w,Quq h,VEq.refl _,.inl rfl⟩⟩
theorem Xgx {P:Program} {t:Nat} {a b:Str}:Qgd P .eql t (SK a) (SK b) (B (a == b)):=Xii (by simp [Qqz,Xll])
def fdv (a b:Nat) : Nat:=(FloatKind.f64.format.div a b).getD Xlm
def fad (a b:Nat) : Nat:=(FloatKind.f64.format.add a b).getD Xlm
def fsb (a b:Nat) : Nat:=(FloatKind.f64.format.sub a b).getD Xlm
def fml (a b:Nat) : Nat:=(FloatKind.f64.format.mul a b).getD Xlm
theorem fArS {P:Program} {t a b:Nat} {op:BinOp} {g:Nat→Nat→Option Nat} (hc : ∀ {m n m' n':Nat},F1 m m'→F1 n n'→g m n=g m' n')
  (h : ∀ (m n:Nat) (w:World) (X Y:Operand),(do eqGuard op t X Y (.float .f64 m) (.float .f64 n);binOp op t (.float .f64 m) (.float .f64 n) : Sem Value).run P w=(match g m n with | some r=>pure (.float .f64 r) | none=>(do pure (.float .f64 (← choose (.nanBits .f64 m n)))) : Sem Value).run P w) : Qgd P op t (FK a) (FK b) (FK ((g a b).getD Xlm)):=by
 refine ⟨.inl ⟨_,rfl⟩,.inl ⟨_,rfl⟩,_,rfl,fun u v hu hv w X Y=>?_⟩
 obtain ⟨m,rfl,hm⟩:=Xb8 hu
 obtain ⟨n,rfl,hn⟩:=Xb8 hv
 have e:=hc hm hn
 rw [h m n w X Y,e]
 cases hg:g a b with
 | some r=>exact ⟨_,w,by simp,VEq.refl _,.inl rfl⟩
 | none =>
  refine ⟨.float .f64 ((Question.nanBits .f64 m n).cut (w.tape w.drawn (.nanBits .f64 m n))),w.drew,?_,.inr ⟨_,rfl,Xjb,Xoa⟩,.inr rfl⟩
  rfl
theorem Xo7 {P:Program} {t a b:Nat}:Qgd P .quo t (FK a) (FK b) (FK (fdv a b)):=fArS (g:=fun m n=>FloatKind.f64.format.div m n) (fun hm hn=>congrArg (fun d=>Option.map Ieee.double.write d) (Qor (f:=fun d e=>d.quotient (Ieee.double.fractionBits+2) e) (fun s t d=>by cases d <;> rfl) (fun s t d=>by cases d <;> rfl) hm hn)) fun m n w X Y=>by simp [eqGuard,binOp,Op.floatArith];rfl
theorem fAdd {P:Program} {t a b:Nat}:Qgd P .add t (FK a) (FK b) (FK (fad a b)):=fArS (g:=fun m n=>FloatKind.f64.format.add m n) (fun hm hn=>congrArg (fun d=>Option.map Ieee.double.write d) (Qor (f:=Ieee.Datum.sum) (fun s t d=>by cases d <;> rfl) (fun s t d=>by cases d <;> rfl) hm hn)) fun m n w X Y=>by simp [eqGuard,binOp,Op.floatArith];rfl
theorem fSub {P:Program} {t a b:Nat}:Qgd P .sub t (FK a) (FK b) (FK (fsb a b)):=fArS (g:=fun m n=>FloatKind.f64.format.sub m n) (fun hm hn=>congrArg (fun d=>Option.map Ieee.double.write d) (Qor (f:=fun d e=>d.sum e.opposite) (fun s t d=>by cases d <;> rfl) (fun s t d=>by cases d <;> rfl) hm hn)) fun m n w X Y=>by simp [eqGuard,binOp,Op.floatArith];rfl
theorem fMul {P:Program} {t a b:Nat}:Qgd P .mul t (FK a) (FK b) (FK (fml a b)):=fArS (g:=fun m n=>FloatKind.f64.format.mul m n) (fun hm hn=>congrArg (fun d=>Option.map Ieee.double.write d) (Qor (f:=Ieee.Datum.product) (fun s t d=>by cases d <;> rfl) (fun s t d=>by cases d <;> rfl) hm hn)) fun m n w X Y=>by simp [eqGuard,binOp,Op.floatArith];rfl
def fOf (n:Int) : Nat:=FloatKind.f64.nearest n
theorem cIF {P:Program} {src dst sz bt sz2 bt2:Nat} {z z2:List Value} {k:IntKind} {n:Int} (h1:Ql6 P src=some ⟨sz,bt,.int k,z⟩) (h2:Ql6 P dst=some ⟨sz2,bt2,.float .f64,z2⟩) : Qyz P src dst (IK k n) (FK (fOf n)):=
 ⟨.inl ⟨_,rfl⟩,_,rfl,fun u hu w=>⟨_,w,by rw [Xcl hu rfl];simp only [convert,Sem.run_bind,run_underlying (Qaq h1),run_underlying (Qaq h2),Result.andThen_ok,Conv.intToFloat,Sem.run_pure];rfl,VEq.refl _,.inl rfl⟩⟩
def fTo (a:Nat) : Option Int:=match (Ieee.double.read a).toInt .zero with
 | some n=>if IntKind.i64.min≤n∧n≤IntKind.i64.max then some n else none
 | none=>none
theorem cFI {P:Program} {src dst sz bt sz2 bt2:Nat} {z z2:List Value} {a:Nat} {n:Int} (h1:Ql6 P src=some ⟨sz,bt,.float .f64,z⟩) (h2:Ql6 P dst=some ⟨sz2,bt2,.int .i64,z2⟩) (h:fTo a=some n) : Qyz P src dst (FK a) (IK .i64 n):=
  ⟨.inl ⟨_,rfl⟩,_,rfl,fun u hu w=>by
    obtain ⟨m,rfl,hm⟩:=Xb8 hu
    unfold fTo at h
    have e:Ieee.double.read m=Ieee.double.read a:=by
      rcases hm with rfl | ⟨_,h2⟩
      · rfl
      · obtain ⟨s,t,e2⟩:=Qj2 h2
        rw [e2] at h
        simp [Ieee.Datum.toInt,Ieee.Datum.integral] at h
    rw [← e] at h
    split at h
    · rename_i n' hn
      split at h
      · rename_i hb
        cases h
        refine ⟨_,w,?_,VEq.refl _,.inl rfl⟩
        have hn2:(FloatKind.f64.decode m).toInt .zero=some n:=hn
        simp only [convert,Sem.run_bind,run_underlying (Qaq h1),run_underlying (Qaq h2),Result.andThen_ok,Conv.floatToInt,hn2,if_pos hb,Sem.run_pure]
      · cases h
    · cases h⟩
theorem xBits {P:Program} {f:FuncId} {fn:Func} {a:Nat} (hf:P.funcs[f]? = some fn) (hname:(fn.name == "runtime.NumGoroutine")=false) (hb:fn.body.isNone=true) (hn:Extern.findNext fn=none) (he:Extern.find fn=some Extern.MathFloatBits.float64bits) (ha:Ql4 a=false) : Xiz P f (FK a) (IK .u64 (a:Int)):=
  ⟨.inl ⟨_,rfl⟩,_,rfl,fun u hu w=>by
    obtain ⟨m,rfl,rfl | ⟨_,h2⟩⟩:=Xb8 hu
    · exact ⟨_,w,by rw [run_callFunc_extern hf hname hb hn he];rfl,VEq.refl _,.inl rfl⟩
    · rw [h2] at ha;cases ha⟩
theorem xFrom {P:Program} {f:FuncId} {fn:Func} {a:Int} (hf:P.funcs[f]? = some fn) (hname:(fn.name == "runtime.NumGoroutine")=false) (hb:fn.body.isNone=true) (hn:Extern.findNext fn=none) (he:Extern.find fn=some Extern.MathFloatBits.float64frombits) : Xiz P f (IK .u64 a) (FK a.toNat):=
 ⟨.inl ⟨_,rfl⟩,_,rfl,fun u hu w=>⟨_,w,by rw [Xcl hu rfl,run_callFunc_extern hf hname hb hn he];rfl,VEq.refl _,.inl rfl⟩⟩
theorem Xe6 {Θ:Tys} {P:Program} (hΘ:TOK P Θ) {t sz bt:Nat} {fs:Array Field} {z:List Value} (ht:Ql6 P t=some ⟨sz,bt,.struct fs,z⟩) (hp:P.stoodInHeld t=false) {us vs:List Value} {r:Bool} (he:Xhv Θ fs.toList 0 us vs=some r) (w:World) :
  (Op.equalIn 10000 t (.agg us.toArray) (.agg vs.toArray)).run P w = .ok r w:=by
 have hu:=Qaq ht
 have hf:P.fieldsOf t=fs:=by simp [Program.fieldsOf,hu]
 rw [run_equalIn_agg w 9999 t _ _ (by rw [hf];exact hu) hp,hf]
 exact Qx6 hΘ w _ _ _ us vs 0 r he (fun k v hk=>by simpa using hk) (fun k v hk=>by simpa using hk)
theorem neS {Θ:Tys} {P:Program} (hΘ:TOK P Θ) {t sz bt:Nat} {fs:Array Field} {z:List Value} (ht:Ql6 P t=some ⟨sz,bt,.struct fs,z⟩) (hp:P.stoodInHeld t=false) (hg:P.eqGuardType P.depth t=false) {us vs:List Value} {r r':Bool} (he:Xhv Θ fs.toList 0 us vs=some r) (hr:r=r') (hnu:us.all nf=true:=by rfl) (hnv:vs.all nf=true:=by rfl) :
  Qgd P .neq t (.agg (Qqr us)) (.agg (Qqr vs)) (B (!r')):=by
 subst hr
 refine ⟨.inr ⟨us,rfl⟩,.inr ⟨vs,rfl⟩,_,rfl,fun u v hu hv w X Y=>⟨_,w,?_,VEq.refl _,.inl rfl⟩⟩
 rw [Xhk hu hnu,Xhk hv hnv,Sem.run_bind,run_eqGuard_agg w .neq t X Y _ _ hg,Result.andThen_ok,run_neq_struct,Xe6 hΘ ht hp he]
 rfl
def fTr (a:Nat) : Nat:=Ieee.double.write ((Ieee.double.read a).integral .zero)
theorem Xdq {m:Nat} {nm:String} (hd:(FloatKind.f64.decode m).isNaN=false) : Extern.MathFloor.toIntegral nm .zero #[.float .f64 m]=pure (.float .f64 (fTr m)):=by
  have e:Extern.MathFloor.toIntegral nm .zero #[.float .f64 m]=(match FloatKind.f64.decode m with
    | .nan s t =>
      if FloatKind.f64.format.quiet t=t then pure (.float .f64 m) else do
      let kept ← choose (.extern "math.Floor,Ceil,Trunc,RoundToEven.signallingNaN kept" 2)
      pure (.float .f64 (if kept == 1 then m else FloatKind.f64.encode (.nan s (FloatKind.f64.format.quiet t))))
    | d=>pure (.float .f64 (FloatKind.f64.encode (d.integral .zero)))):=rfl
  have e2:fTr m=FloatKind.f64.encode ((FloatKind.f64.decode m).integral .zero):=rfl
  rw [e,e2]
  cases hq:FloatKind.f64.decode m with
  | nan s t=>rw [hq] at hd;cases hd
  | infinity s=>rfl
  | number s k i=>rfl
theorem Xpb {P:Program} {f:FuncId} {fn:Func} {a:Nat} (hf:P.funcs[f]? = some fn) (hname:(fn.name == "runtime.NumGoroutine")=false) (hb:fn.body.isNone=true) (hn:Extern.findNext fn=none) (he:Extern.find fn=some (Extern.MathFloor.toIntegral "math.archTrunc" .zero)) (ha:Ql4 a=false) : Xiz P f (FK a) (FK (fTr a)):=
  ⟨.inl ⟨_,rfl⟩,_,rfl,fun u hu w=>by
    obtain ⟨m,rfl,rfl | ⟨_,h2⟩⟩:=Xb8 hu
    · refine ⟨_,w,?_,VEq.refl _,.inl rfl⟩
      rw [run_callFunc_extern hf hname hb hn he]
      have hd:(FloatKind.f64.decode m).isNaN=false:=by
        cases hq:FloatKind.f64.decode m with
        | nan s t=>rw [Xbq (n:=m) (s:=s) (t:=t) hq] at ha;cases ha
        | infinity s=>rfl
        | number s k i=>rfl
      rw [Xdq hd];rfl
    · rw [h2] at ha;cases ha⟩
def Xhw (a:Nat) : Option Unit:=if Ql4 a then none else some ()
theorem Xoq {a:Nat} {q:Unit} (h:Xhw a=some q) : Ql4 a=false:=by unfold Xhw at h;cases h2:Ql4 a <;> simp [h2] at h ⊢
theorem Qfh {α:Type} {l:List α} {i:Nat} {a b c : α} (h:b=c) : (l.set i a).set i b=l.set i c:=by rw [h,List.set_set]
section
variable {α β:Type} {l l':List α} {i j:Int}
theorem appTr (f g : α→β) {l2:List α} (h:app [] l2=some l') {n:Nat}:(([] : List α).map f).take n++l2.map g=l'.map g:=by
 have e:l'=l2:=by unfold app at h;split at h; (cases h;rfl);cases h
 subst e;simp
theorem Xhx (h:decide (j=i)=false) : neI i j=some ():=by
 unfold neI;rw [if_neg (fun e=>by subst e;simp at h)]
theorem eqG {xs:List β} {x : β} (hc:decide (i=j)=true) (h:xs[j.toNat]? = some x) : xs[i.toNat]? = some x:=by rw [of_decide_eq_true hc];exact h
theorem eqLe {a:Int} (hc:decide (i=j)=true) (h:a≤j) : a≤i:=by rw [of_decide_eq_true hc];exact h
theorem eqLt {a:Int} (hc:decide (i=j)=true) (h:j<a) : i<a:=by rw [of_decide_eq_true hc];exact h
theorem setND (f : α→β) {n m:Nat} {c z : β} {y : α} (hne:n≠m) (h:z=f y) : ((l.map f).set n c).set m z=((l.set m y).map f).set n c:=by rw [h,List.set_comm _ _ hne,List.map_set]
def Xap (l:List α) (hi:Int) : Option Unit:=if hi=(l.length:Int) then some () else none
theorem Xgd {hi:Int} {q:Unit} (h:Xap l hi=some q) : hi=(l.length:Int):=by unfold Xap at h;split at h;assumption;cases h
theorem Xoi (f : α→β) {hi:Int} {q:Unit} {r:Nat} (h:Xap l hi=some q) : AV.sl r 0 hi.toNat=AV.sl r 0 (l.map f).length:=by rw [Xgd h];simp
theorem Xod {hi:Int} {q:Unit} (h:Xap l hi=some q) : 0≤hi:=by rw [Xgd h];omega
theorem Xor (f : α→β) {hi:Int} {q:Unit} (h:Xap l hi=some q) : hi≤(((l.map f).length:Nat) : Int):=by rw [Xgd h,List.length_map];exact Int.le_refl _
theorem Qfb {xs:List β} {n:Nat} (h:n=xs.length) : xs.take n=xs:=by rw [h,List.take_length]
theorem Qct {xs:List (List AV)} {n:Nat} (h:n=xs.length) (ht:Qa2 xs=true) : Qa2 (xs.take n)=true:=by rw [h,List.take_length];exact ht
theorem adT {xs:List β} {n:Nat} {ys:List β} (h:n=xs.length) : xs.take n++ys=xs++ys:=by rw [h,List.take_length]
theorem adB (f : α→β) {x c : β} {k:Nat} {y : α} (h:app l [y]=some l') {b:Nat} (hb:b≤128) : ((l.map f).set k c++[x]).length * b≤140737488355328:=by
 have:=apB f (x:=x) h hb
 simpa using this
theorem adC (f : α→β) {x c : β} {k:Nat} {y : α} (h:app l [y]=some l') : ((l.map f).set k c++[x]).length≤140737488355328:=by
 have:=apC f (x:=x) h
 simpa using this
theorem adG (f : α→β) {x c : β} {k:Nat}:((l.map f).set k c++[x])[l.length]? = some x:=by
 rw [List.getElem?_append_right (by simp)];simp
theorem adS (f : α→β) {x c : β} {y e : α} (h:app l [y]=some l') (hk:rd l i=some e) : ((l.map f).set i.toNat c++[x]).set l.length (f y)=(l'.map f).set i.toNat c:=by
 have hi:=(List.getElem?_eq_some_iff.1 (rdE hk)).1
 rw [← Xhy h,List.set_append_right _ _ (by simp),List.map_append,List.set_append_left _ _ (by simpa using hi)]
 simp
theorem adL (f : α→β) {x c : β} {k:Nat} {y : α} (h:app l [y]=some l') : List.length ((l.map f).set k c++[x])=List.length ((l'.map f).set k c):=by
 rw [← Xhy h];simp
end
theorem Qwt : ∀ (l m:List AV),Qcy l=true→Qcy m=true→Qcy (l++m)=true
 | [],_,_,h=>h
 | c :: cs,m,h1,h2=>by
  simp only [Qcy,Bool.and_eq_true,List.cons_append] at h1 ⊢
  exact ⟨h1.1,Qwt cs m h1.2 h2⟩
theorem Qxg : ∀ (l m:List AV),Qbm l=true→Qbm m=true→Qbm (l++m)=true
 | [],_,_,h=>h
 | c :: cs,m,h1,h2=>by
  simp only [Qbm,Bool.and_eq_true,List.cons_append] at h1 ⊢
  exact ⟨h1.1,Qxg cs m h1.2 h2⟩
theorem Qhy {A:Type} {o:A→List AV} (t : ∀ x,Qcy (o x)=true) (l:List AV) (hl:Qcy l=true) (e:A) : Qa2 [l++o e]=true:=by
 simp only [Qa2,List.all_cons,List.all_nil,Bool.and_true]
 exact Qwt _ _ hl (t e)
theorem Qhl {A:Type} {o:A→List AV} (t : ∀ x,Qbm (o x)=true) (l:List AV) (hl:Qbm l=true) (e:A) : Qa6 [l++o e]=true:=by
 simp only [Qa6,Bool.and_true]
 exact Qxg _ _ hl (t e)
theorem cOq {P:Program} {f:FuncId} {T sz:Nat} {a1 a2 c1 c2:List AV} {outs:List AV} {res:AV} (h:Qo1 P f [⟨T,sz,[c1]⟩] outs [true] [⟨T,sz,[c2]⟩] res) (e1:a1=c1) (e2:a2=c2) : Qo1 P f [⟨T,sz,[a1]⟩] outs [true] [⟨T,sz,[a2]⟩] res:=by
 subst e1;subst e2;exact h
theorem cNq {a c:List AV} (h:Qa6 [c]=true) (e:a=c) : Qa6 [a]=true:=by subst e;exact h
theorem Qzh : ∀ (l m:List AV),Qjr (l++m)=Qjr l++Qjr m
 | [],_=>by simp [Qjr]
 | c :: cs,m=>by simp only [List.cons_append,Qjr,Qzh cs m]
theorem frzBV {A:Type} {o r:A→List AV} (z : ∀ x,Qjr (o x)=r x) (l:List AV) (hl:Qjr l=l) (e:A) : Qjr (l++o e)=l++r e:=by
 rw [Qzh,hl,z]
section
open Go.RowKit
end
section
open Go.RowKit
end
end Go.T
set_option linter.unusedVariables false
namespace Go.T
open Go Go.RowKit Go.Proofs
def Qj8 (a b:Nat) : Bool:=(Ql4 a && Ql4 b) || a == b
theorem Xex (k:Nat) : (FloatKind.f64.format.order k k != some .eq)=Ql4 k:=by
 unfold Ql4
 show (Ieee.Format.order Ieee.double k k != some .eq)=(Ieee.Format.order Ieee.double k k).isNone
 unfold Ieee.Format.order
 cases Ieee.double.read k with
 | nan s t=>rfl
 | infinity s=>simp [Ieee.Datum.order]
 | number s m i=>simp [Ieee.Datum.order]
theorem Xde {m n a b:Nat} (hm:F1 m a) (hn:F1 n b) : Qj8 m n=Qj8 a b:=by
 unfold Qj8
 rcases hm with rfl | ⟨h1,h2⟩ <;> rcases hn with rfl | ⟨h3,h4⟩
 ·rfl
 ·rw [h3,h4]
  cases h:Ql4 m
  ·have e1:(m == n)=false:=beq_eq_false_iff_ne.2 (fun e=>by rw [e,h3] at h;cases h)
   have e2:(m == b)=false:=beq_eq_false_iff_ne.2 (fun e=>by rw [e,h4] at h;cases h)
   rw [e1,e2]
  ·rfl
 ·rw [h1,h2]
  cases h:Ql4 n
  ·have e1:(m == n)=false:=beq_eq_false_iff_ne.2 (fun e=>by rw [← e,h1] at h;cases h)
   have e2:(a == n)=false:=beq_eq_false_iff_ne.2 (fun e=>by rw [← e,h2] at h;cases h)
   rw [e1,e2]
  ·rfl
 ·rw [h1,h2,h3,h4];rfl
theorem Xd7 {P:Program} {f:FuncId} {a b:Nat} (hE:Enters P f) (h : ∀ (m n:Nat) (w:World),Calls P f #[.float .f64 m,.float .f64 n] w fun e w'=>e = .returned (.bool (Qj8 m n))∧w'=w) : Qa4 P f [FK a,FK b] (B (Qj8 a b)):=by
 refine ⟨hE,fun w S vals hr hS=>?_⟩
 simp only [Qfo,rep] at hr
 obtain ⟨u,us,f1,f2,rfl,_,⟨_,h1⟩,u2,us2,f3,f4,rfl,_,⟨_,h2⟩,rfl,_⟩:=hr
 obtain ⟨m,rfl,hm⟩:=h1.flt
 obtain ⟨n,rfl,hn⟩:=h2.flt
 refine (h m n w).mono ?_
 rintro e w' ⟨rfl,rfl⟩
 exact ⟨_,[],rfl,Below.refl _ _,Nat.le_refl _,by rw [Xde hm hn];simp only [rep];exact ⟨trivial,.refl _⟩,List.nodup_nil,by simp⟩
end Go.T
set_option linter.unusedVariables false
namespace Go.T
open Go
theorem Qh4 {n:Int} (h : -9223372036854775808≤n∧n<9223372036854775808) : w64 n=n:=by
 show IntKind.i64.wrap n=n
 rw [IntKind.wrap_i64];omega
theorem Qik {k:Nat} (h:k<4611686018427387904) : w64 ((k:Int)+1)=((k+1:Nat) : Int):=by rw [Qh4 (by omega)];omega
section
variable {α β:Type}
theorem Qfs {l:List α} {k:Nat} (h:k<l.length) : rd l (k:Int)=some l[k]:=by simp [rd,h]
theorem Xgh {l:List α} {k:Nat}:rd l (k:Int)=l[k]?:=by simp [rd]
theorem Xav {l:List α} {i:Int} {x : α} (h0 : 0≤i) (h:l[i.toNat]? = some x) : rd l i=some x:=by simp [rd,h0,h]
theorem Qid {a b:List α} (h:a.length+b.length<1099511627776) : app a b=some (a++b):=by simp [app,h]
theorem Xlx {z : α} {n:Nat} (h:n<1099511627776) : mk z (n:Int)=some (List.replicate n z):=by
 unfold mk;rw [if_pos (by omega)];rfl
theorem Xi7 {l:List α} {k:Nat} (h:k≤l.length) : slc l 0 (k:Int)=some (l.take k):=by
 unfold slc;rw [if_pos (by omega)];simp [List.take_of_length_le]
theorem Xiq {l:List α} {k:Nat} (h:k≤l.length) : slc l (k:Int) (l.length:Int)=some (l.drop k):=by
 unfold slc;rw [if_pos (by omega)];simp [List.take_of_length_le]
theorem ltD {a b:Nat}:(decide ((a:Int)<(b:Int)))=decide (a<b):=by
 by_cases h:a<b
 ·rw [decide_eq_true (by omega),decide_eq_true h]
 ·rw [decide_eq_false (by omega),decide_eq_false h]
end
theorem Qip {n:Nat} (h:n<1099511627776) : n<FU:=by rw [FU_eq];omega
section
variable {α:Type} {f g:Nat→α} {n:Nat}
end
theorem PS:(∀ {a b:Nat},decide ((a:Int)<(b:Int))=decide (a<b))∧(∀ (h:Decidable True),@decide True h=true)∧(∀ (h:Decidable False),@decide False h=false)
  ∧ (∀ {β:Type} (h:Decidable True) (x y : β),@ite β True h x y=x)∧(∀ {β:Type} (h:Decidable False) (x y : β),@ite β False h x y=y)∧((false=true)=False)∧((true=false)=False)
  ∧ (∀ {α β:Type} (a : α) (f : α→Option β),(some a).bind f=f a)∧((!true)=false)∧((!false)=true)∧(∀ n:Nat,((n:Int)).toNat=n)∧(∀ {α:Type} [BEq α] [LawfulBEq α] (a : α),(a == a)=true)∧(∀ {α:Type} [BEq α] [LawfulBEq α] (a : α),(a != a)=false):=
 ⟨ltD,fun h=>decide_true h,fun h=>decide_false h,fun h x y=>if_pos trivial,fun h x y=>if_neg id,Bool.false_eq_true,Bool.true_eq_false,fun a f=>rfl,rfl,rfl,Int.toNat_natCast,fun a=>beq_self_eq_true a,fun a=>bne_self_eq_false a⟩
end Go.T
set_option linter.unusedVariables false
namespace Go.T
open Go
section
variable {α:Type}
theorem eqL {p:List α} {e : α→α→Option Bool} {F:Nat→Int→Option Bool}
  (hF : ∀ n v,F (n+1) v=if (decide (v<(p.length:Int)))=true then Option.bind (rd p v) fun x=>Option.bind (rd p v) fun y=>Option.bind (e x y) fun r=>if (!r)=true then some false else F n (w64 (v+1)) else some true)
  (hp:p.length<1099511627776) (he : ∀ x∈p,e x x=some true) : F FU 0=some true:=by
 have key : ∀ (n k:Nat),k≤p.length→p.length<n+k→F n k=some true:=by
  intro n
  induction n with
  | zero=>intro k h1 h2;omega
  | succ n ih =>
   intro k h1 h2
   rw [hF]
   by_cases hk:k<p.length
   ·simp only [PS,hk,Qfs hk,Qik (k:=k) (by omega),ih (k+1) hk (by omega),he _ (List.getElem_mem hk)]
   ·simp [hk]
 exact key FU 0 (by omega) (by have:=Qip hp;omega)
theorem eqLs [BEq α] [LawfulBEq α] {p:List α} {F:Nat→Int→Option Bool}
  (hF : ∀ n v,F (n+1) v=if (decide (v<(p.length:Int)))=true then Option.bind (rd p v) fun x=>Option.bind (rd p v) fun y=>if (x != y)=true then some false else F n (w64 (v+1)) else some true)
  (hp:p.length<1099511627776) : F FU 0=some true:=
 eqL (e:=fun x y=>some (x == y)) (fun n v=>by rw [hF];rfl) hp (fun x _=>by simp)
theorem toL {p:List α} {t : α→Option α} {F:Nat→List α→Int→Option (List α)}
    (hF : ∀ n a v,F (n+1) a v=if (decide (v<(p.length:Int)))=true then Option.bind (rd p v) fun x=>Option.bind (t x) fun r=>Option.bind (rd a v) fun _=>F n (a.set (Int.toNat v) r) (w64 (v+1)) else some a)
    (hp:p.length<1099511627776) (ht : ∀ x∈p,t x=some x) (z : α) : (Option.bind (mk z (p.length:Int)) fun l=>F FU l 0)=some p:=by
  have key : ∀ (n k:Nat) (a:List α),k≤p.length→p.length<n+k→a.length=p.length→a.take k=p.take k→F n a k=some p:=by
    intro n
    induction n with
    | zero=>intro k a h1 h2;omega
    | succ n ih =>
      intro k a h1 h2 h3 h4
      rw [hF]
      by_cases hk:k<p.length
      · have hk':k<a.length:=by omega
        have:=ih (k+1) (a.set k p[k]) hk (by omega) (by simp [h3]) (by
          rw [List.take_add_one,List.take_add_one,List.take_set_of_le (Nat.le_refl k),h4];simp [hk,hk'])
        simp only [PS,hk,Qfs hk,Qfs hk',ht _ (List.getElem_mem hk),Qik (k:=k) (by omega),this]
      · have:k=p.length:=by omega
        subst this
        rw [List.take_length,← h3,List.take_length] at h4
        simp [h4]
  rw [Xlx hp,Option.bind_some]
  exact key FU 0 _ (by omega) (by have:=Qip hp;omega) (by simp) (by simp)
theorem toLs {p:List α} {F:Nat→List α→Int→Option (List α)}
  (hF : ∀ n a v,F (n+1) a v=if (decide (v<(p.length:Int)))=true then Option.bind (rd p v) fun x=>Option.bind (rd a v) fun _=>F n (a.set (Int.toNat v) x) (w64 (v+1)) else some a)
  (hp:p.length<1099511627776) (z : α) : (Option.bind (mk z (p.length:Int)) fun l=>F FU l 0)=some p:=
 toL (t:=some) hF hp (fun _ _=>rfl) z
theorem szL {p:List α} {s : α→Int→Option Int} {small : α→Prop} {F:Nat→Int→Int→Option Int}
  (hF : ∀ n l v,F (n+1) l v=if (decide (v<(p.length:Int)))=true then Option.bind (rd p v) fun x=>Option.bind (s x l) fun r=>if (decide (r<0))=true then some (-1) else F n r (w64 (v+1)) else some l)
  (hp:p.length<1099511627776) (hs : ∀ x∈p,∀ l:Int,0≤l→l≤1048576→∃ r:Int,s x l=some r∧r≤l∧(0≤r→small x)) {l:Int} (h0 : 0≤l) (h1:l≤1048576) : ∃ r:Int,F FU l 0=some r∧r≤l∧(0≤r→∀ x∈p,small x):=by
 have key : ∀ (n k:Nat) (l:Int),k≤p.length→p.length<n+k→0≤l→l≤1048576→∃ r:Int,F n l k=some r∧r≤l∧(0≤r→∀ x∈p.drop k,small x):=by
  intro n
  induction n with
  | zero=>intro k l h1 h2;omega
  | succ n ih =>
   intro k l h1 h2 h3 h4
   rw [hF]
   by_cases hk:k<p.length
   ·obtain ⟨r,e1,e2,e3⟩:=hs p[k] (List.getElem_mem hk) l h3 h4
    simp only [PS,hk,Qfs hk,e1,Qik (k:=k) (by omega)]
    by_cases hr:r<0
    ·exact ⟨-1,by simp [hr],by omega,fun h=>by omega⟩
    ·obtain ⟨r',f1,f2,f3⟩:=ih (k+1) r hk (by omega) (by omega) (by omega)
     refine ⟨r',by rw [if_neg (by simp [hr])];exact f1,by omega,fun h x hx=>?_⟩
     rw [List.drop_eq_getElem_cons hk] at hx
     rcases List.mem_cons.1 hx with h' | h'
     ·rw [h'];exact e3 (by omega)
     ·exact f3 h x h'
   ·have:k=p.length:=by omega
    subst this
    exact ⟨l,by simp,by omega,fun _ x hx=>by simp at hx⟩
 obtain ⟨r,e1,e2,e3⟩:=key FU 0 l (by omega) (by have:=Qip hp;omega) h0 h1
 exact ⟨r,e1,e2,by simpa using e3⟩
theorem Xmh {p:List α} {t : α→Option Bool} {q : α→Bool} {F:Nat→Int→Option Int}
  (hF : ∀ n v,F (n+1) v=if (decide (v<(p.length:Int)))=true then Option.bind (rd p v) fun x=>Option.bind (t x) fun r=>if r=true then some v else F n (w64 (v+1)) else some (-1))
  (hp:p.length<1099511627776) (ht : ∀ x∈p,t x=some (q x)) : ∃ r:Int,F FU 0=some r∧decide (r ≥ 0)=p.any q:=by
 have key : ∀ (n k:Nat),k≤p.length→p.length<n+k→∃ r:Int,F n k=some r∧decide (r ≥ 0)=(p.drop k).any q:=by
  intro n
  induction n with
  | zero=>intro k h1 h2;omega
  | succ n ih =>
   intro k h1 h2
   rw [hF]
   by_cases hk:k<p.length
   ·rw [List.drop_eq_getElem_cons hk,List.any_cons]
    obtain ⟨r,e1,e2⟩:=ih (k+1) hk (by omega)
    simp only [PS,hk,Qfs hk,ht _ (List.getElem_mem hk),Qik (k:=k) (by omega),e1]
    cases q p[k]
    ·exact ⟨r,by simp,by simpa using e2⟩
    ·exact ⟨k,by simp,by simp⟩
   ·have:k=p.length:=by omega
    subst this
    exact ⟨-1,by simp,by simp⟩
 simpa using key FU 0 (by omega) (by have:=Qip hp;omega)
end
theorem Qrp (x:Nat) : Qci x x=none∨Qci x x=some .eq:=by
 unfold Qci Ieee.Format.order
 generalize FloatKind.f64.format.read x=d
 cases d with
 | nan=>left;rfl
 | infinity s=>right;cases s <;> rfl
 | number s m e =>
  right
  simp only [Ieee.Datum.order]
  have : ∀ z:Int,compare z z = .eq:=fun z=>by simp [Std.ReflCmp.compare_self]
  rw [this]
end Go.T
