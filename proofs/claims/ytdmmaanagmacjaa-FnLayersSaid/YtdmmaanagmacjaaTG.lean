/- Lemmas for FnLayers; no condition. -/

import Derived.Test.YtdmmaanagmacjaaTA0
import Derived.Laws.Small
import Derived.Laws.MakeOwn
set_option linter.unusedVariables false
namespace Go.T
open Go Go.RowKit
def cellsOf:AV→List AV
 | .agg cs=>cs
 | c=>[c]
def Qeh (s:St) : AV→Bool
 | .lit v=>v.oneCell'
 | .ro _ _=>true
 | .rop _ _=>true
 | .sl i _ _=>(s.root i).isSome
 | .ptr i _ _=>(s.root i).isSome
 | _=>false
theorem Qpo {w:World} {S U:Nat→Prop} {s:St} {hd:Nat→Value} {c:AV} {u:Value} {fp:List Nat} (h:repR w S U (tab s hd) c u fp) (hc:Qeh s c=true) : u.oneCell'=true:=by
 cases c with
 | lit v=>simp only [repR,rep] at h;exact h.2.one hc
 | ro sz xs=>simp only [repR,rep] at h;obtain ⟨_,A,cap,rfl,_⟩:=h;rfl
 | sl id off len =>
  simp only [Qeh] at hc
  obtain ⟨R,hR⟩:=Option.isSome_iff_exists.1 hc
  simp only [repR] at h
  obtain ⟨_,⟨A,cap,rfl,_⟩,_⟩:=h.2.2 (hd id) R.xs.length R.sz (by simp [tab,hR])
  rfl
 | ptr id e o =>
  simp only [Qeh] at hc
  obtain ⟨R,hR⟩:=Option.isSome_iff_exists.1 hc
  simp only [repR] at h
  obtain ⟨_,b,m,c,_,rfl⟩:=h.2.2 (hd id) R.xs.length R.sz (by simp [tab,hR])
  rfl
 | rop cs o=>simp only [repR,rep] at h;obtain ⟨_,b,o0,vs,rfl,_⟩:=h;rfl
 | _=>simp [Qeh] at hc
theorem Qn6 {w:World} {S U:Nat→Prop} {s:St} {hd:Nat→Value} : ∀ (cs:List AV) (vs:List Value) (fp:List Nat),Qah w S U (tab s hd) cs vs fp→cs.all (Qeh s)=true→∀ u∈vs,u.oneCell'=true
 | [],_,_,h,_=>by simp only [Qah] at h;simp [h.1]
 | c :: cs,_,_,h,hc=>by
  simp only [Qah] at h
  obtain ⟨u,us,f1,f2,rfl,rfl,h1,h2⟩:=h
  simp only [List.all_cons,Bool.and_eq_true] at hc
  intro y hy
  rcases List.mem_cons.1 hy with rfl | hy
  ·exact Qpo h1 hc.1
  ·exact Qn6 cs us f2 h2 hc.2 y hy
theorem Qvg {u:Value} (h:u.oneCell'=true) : u.cells = #[u]:=by cases u <;> first | rfl | cases h
theorem Qiy {w:World} {S U:Nat→Prop} {s:St} {hd:Nat→Value} {v:AV} {u:Value} (h:repR w S U (tab s hd) v u []) (hc:(cellsOf v).all (Qeh s)=true) : Qah w S U (tab s hd) (cellsOf v) u.cells.toList []:=by
 by_cases hv : ∃ cs,v = .agg cs
 ·obtain ⟨cs,rfl⟩:=hv
  simp only [repR] at h
  obtain ⟨vs,rfl,h⟩:=h
  simpa [cellsOf,Value.cells] using h
 ·have e:cellsOf v=[v]:=by cases v <;> first | rfl | exact absurd ⟨_,rfl⟩ hv
  rw [e] at hc ⊢
  have h1:=Qpo h (by simpa using hc)
  rw [Qvg h1]
  simp only [Qah]
  exact ⟨u,[],[],[],rfl,rfl,h,rfl,rfl⟩
def Qmz (s:St) (pl:Nat→Option (Nat×Nat)) : List AV→List (Nat×AV)→Option (List AV)
 | cells,[]=>some cells
 | cells,(i,v) :: rest=>match pl i with
  | none=>none
  | some (off,size)=>if (cellsOf v).length=size then (if off+size≤cells.length then (if (cellsOf v).all (Qeh s) then Qmz s pl (cells.take off++cellsOf v++cells.drop (off+size)) rest else none) else none) else none
theorem Qtq : ∀ (vs:List Value) (off:Nat) (cells:Array Value) (j:Nat),off+j+vs.length≤cells.size →
  ((vs.zipIdx j).foldl (fun cs (c,j)=>cs.setIfInBounds (off+j) c) cells).toList=cells.toList.take (off+j)++vs++cells.toList.drop (off+j+vs.length)
 | [],off,cells,j,h=>by simp
 | v :: vs,off,cells,j,h=>by
  simp only [List.zipIdx_cons,List.foldl_cons]
  simp only [List.length_cons] at h
  rw [Qtq vs off (cells.setIfInBounds (off+j) v) (j+1) (by simp;omega)]
  simp only [Array.toList_setIfInBounds]
  have hlt:off+j<cells.toList.length:=by simp;omega
  rw [show off+(j+1)=(off+j)+1 by omega]
  rw [List.take_set,List.drop_set_of_lt (by omega),List.length_cons,show off+j+1+vs.length=off+j+(vs.length+1) by omega]
  congr 1
  rw [List.take_succ_eq_append_getElem hlt,List.set_append_right _ _ (by rw [List.length_take];omega)]
  rw [List.length_take,Nat.min_eq_left (by omega)]
  simp
def Qkm (w:World) (S U:Nat→Prop) (ρ:Tab) : List (Nat×AV)→List (Nat×Value)→Prop
 | [],vs=>vs=[]
 | (i,v) :: r,vs => ∃ u us,vs=(i,u) :: us∧repR w S U ρ v u []∧Qkm w S U ρ r us
theorem Qdy {w:World} {S U:Nat→Prop} {ρ:Tab} {cs ds:List AV} {vs us:List Value} (h:Qah w S U ρ cs vs []) (h':Qah w S U ρ ds us []) : Qah w S U ρ (cs++ds) (vs++us) []:=Qlv _ _ _ _ [] [] h h'
theorem Qsd {w:World} {S U:Nat→Prop} {ρ:Tab} {cs:List AV} {vs:List Value} (h:Qah w S U ρ cs vs []) (n:Nat) : Qah w S U ρ (cs.take n) (vs.take n) []∧Qah w S U ρ (cs.drop n) (vs.drop n) []:=by
 have hlen:=Qb4 _ _ _ h
 rw [← List.take_append_drop n cs] at h
 obtain ⟨v1,v2,f1,f2,rfl,hf,h1,h2⟩:=Qis _ _ _ _ h
 obtain ⟨rfl,rfl⟩:=List.append_eq_nil_iff.1 hf.symm
 have l1:=Qb4 _ _ _ h1
 rw [List.length_take] at l1
 have e1:(v1++v2).take n=v1∧(v1++v2).drop n=v2:=by
  by_cases hn:n≤cs.length
  ·rw [Nat.min_eq_left hn] at l1
   subst l1
   exact ⟨List.take_left,List.drop_left⟩
  ·have l2:=Qb4 _ _ _ h2
   rw [List.length_drop] at l2
   have:v2=[]:=List.eq_nil_of_length_eq_zero (by omega)
   subst this
   rw [List.append_nil]
   exact ⟨List.take_of_length_le (by omega),List.drop_of_length_le (by omega)⟩
 rw [e1.1,e1.2]
 exact ⟨h1,h2⟩
theorem Qmb {w:World} {S U:Nat→Prop} {s:St} {hd:Nat→Value} {pl:Nat→Option (Nat×Nat)} : ∀ (ps:List (Nat×AV)) (vs:List (Nat×Value)) (cs:List AV) (arr:Array Value) (r:List AV),
  Qkm w S U (tab s hd) ps vs→Qah w S U (tab s hd) cs arr.toList []→Qmz s pl cs ps=some r→∃ arr',Instr.fill pl arr vs=some arr'∧Qah w S U (tab s hd) r arr'.toList []
 | [],vs,cs,arr,r,hp,hc,he=>by
  simp only [Qkm] at hp
  subst hp
  simp only [Qmz] at he
  cases he
  exact ⟨arr,rfl,hc⟩
 | (i,v) :: ps,vs,cs,arr,r,hp,hc,he=>by
  simp only [Qkm] at hp
  obtain ⟨u,us,rfl,hu,hp⟩:=hp
  simp only [Qmz] at he
  split at he
  ·cases he
  rename_i off size hpl
  split at he
  case isFalse=>cases he
  rename_i hl
  split at he
  case isFalse=>cases he
  rename_i hle
  split at he
  case isFalse=>cases he
  rename_i hok
  have hcs:=Qiy hu hok
  have hul:=Qb4 _ _ _ hcs
  have hal:=Qb4 _ _ _ hc
  rw [Array.length_toList] at hul hal
  simp only [Instr.fill,hpl]
  rw [if_neg (by simp;omega)]
  refine Qmb ps us _ _ r hp ?_ he
  have hz:(u.cells.zipIdx.foldl (fun cs (c,j)=>cs.setIfInBounds (off+j) c) arr).toList=arr.toList.take off++u.cells.toList++arr.toList.drop (off+size):=by
   rw [← Array.foldl_toList,Array.toList_zipIdx]
   have:=Qtq u.cells.toList off arr 0 (by rw [Array.length_toList];omega)
   simpa [hul,hl] using this
  rw [hz]
  exact Qdy (Qdy (Qsd hc off).1 hcs) (Qsd hc (off+size)).2
def Qp2 (vs:List Value) : List AV:=vs.map .lit
theorem Qjy {w:World} {S U:Nat→Prop} {ρ:Tab} : ∀ vs:List Value,Qah w S U ρ (Qp2 vs) vs []
 | []=>by simp [Qp2,Qah]
 | v :: vs=>by
  simp only [Qp2,List.map_cons,Qah]
  exact ⟨v,vs,[],[],rfl,rfl,Qcs v,Qjy vs⟩
def Qja (s:St) (ps:Array (Nat×Operand)) : List (Nat×AV):=ps.toList.map fun p=>(p.1,Qal s p.2)
theorem Qn3 {E:Env} {s:St} {a:Act} {w:World} {χ:Nat→Option Nat} {hd:Nat→Value} (h:Qci E s a w χ hd) (ps:Array (Nat×Operand)) : Qkm w (Qbg χ w) (· ∈ s.us) (tab s hd) (Qja s ps) (ps.map fun (i,x)=>(i,a.eval x)).toList:=by
 rw [Array.toList_map]
 unfold Qja
 generalize ps.toList=l
 induction l with
 | nil=>simp [Qkm]
 | cons p r ih =>
  simp only [List.map_cons,Qkm]
  exact ⟨a.eval p.2,_,rfl,Qak h p.2,ih⟩
def plS (Θ:Tys) (fs:Array Field) (i:Nat) : Option (Nat×Nat):=
 match fs[i]? with
 | some f=>match Θ.lookup f.type with
  | some t=>some (f.offset,t.sz)
  | none=>none
 | none=>none
def Qv3 (Θ:Tys) (s:St) (t:Nat) (ps:Array (Nat×Operand)) : Option AV:=
 match Θ.lookup t with
 | some ⟨_,_,.struct fs,ze⟩=>if fs.toList.all (fun f=>(Θ.lookup f.type).isSome) then (Qmz s (plS Θ fs) (Qp2 ze) (Qja s ps)).map .agg else none
 | some ⟨_,_,.array _ el,ze⟩=>match Θ.lookup el with
  | some te=>(Qmz s (fun i=>some (i * te.sz,te.sz)) (Qp2 ze) (Qja s ps)).map .agg
  | none=>none
 | _=>none
theorem Qin {P:Program} {w:World} {t:Nat} {ti:TI} (h:Qi4 P t=some ti) : ∃ z,(zeroValue t).run P w = .ok z w∧z.cells.toList=ti.zero:=by
 obtain ⟨i,z,hi,_,_,hz,hc⟩:=Qo0 h
 exact ⟨z,by simp [zeroValue,typeInfo,hi,hz],hc⟩
theorem Qrf {P:Program} {w:World} {Θ:Tys} (hΘ:TOK P Θ) (fs:Array Field) (h:fs.toList.all (fun f=>(Θ.lookup f.type).isSome)=true) :
  (fs.mapM fun f=>do pure (f.offset,← sizeOf f.type) : Sem (Array (Nat×Nat))).run P w = .ok (fs.map fun f=>(f.offset,((Θ.lookup f.type).map (·.sz)).getD 0)) w:=by
 obtain ⟨l⟩:=fs
 rw [List.mapM_toArray]
 simp only [Sem.run_map]
 have : ∀ l:List Field,l.all (fun f=>(Θ.lookup f.type).isSome)=true→(l.mapM fun f=>do pure (f.offset,← sizeOf f.type) : Sem (List (Nat×Nat))).run P w = .ok (l.map fun f=>(f.offset,((Θ.lookup f.type).map (·.sz)).getD 0)) w:=by
  intro l
  induction l with
  | nil=>intro _;simp
  | cons f r ih =>
   intro h
   simp only [List.all_cons,Bool.and_eq_true] at h
   obtain ⟨t,ht⟩:=Option.isSome_iff_exists.1 h.1
   simp only [List.mapM_cons,Sem.run_bind,Result.andThen_ok,Qco (hΘ.get ht),Sem.run_pure,ih h.2]
   simp [ht]
 rw [this l h]
 simp
theorem Qup {E:Env} {s:St} {a:Act} {w:World} {χ:Nat→Option Nat} {hd:Nat→Value} {Θ:Tys} (hΘ:TOK E.P Θ) (h:Qci E s a w χ hd) {t:Nat} {ps:Array (Nat×Operand)} {r:AV} (he:Qv3 Θ s t ps=some r) :
  ∃ v,(Instr.build t (ps.map fun (i,x)=>(i,a.eval x))).run E.P w = .ok v w∧repR w (Qbg χ w) (· ∈ s.us) (tab s hd) r v []:=by
 unfold Qv3 at he
 split at he
 ·rename_i sz by_ fs ze hti
  have hti:=hΘ.get hti
  have hu:=run_underlying (P:=E.P) (w:=w) (Qas hti)
  obtain ⟨z,hz,hzc⟩:=Qin (w:=w) hti
  split at he
  case isFalse=>cases he
  rename_i hall
  rw [Option.map_eq_some_iff] at he
  obtain ⟨cs,he,rfl⟩:=he
  have hzr:Qah w (Qbg χ w) (· ∈ s.us) (tab s hd) (Qp2 ze) z.cells.toList []:=by rw [hzc];exact Qjy ze
  obtain ⟨arr,hf,hr⟩:=Qmb _ _ _ z.cells cs (Qn3 h ps) hzr he
  refine ⟨.agg arr,?_,by simp only [repR];exact ⟨arr.toList,by simp,hr⟩⟩
  simp only [Instr.build,Sem.run_bind,hz,hu,Result.andThen_ok,Qrf hΘ fs hall]
  have hpl:((fs.map fun f=>(f.offset,((Θ.lookup f.type).map (·.sz)).getD 0))[·]? : Nat→Option (Nat×Nat))=plS Θ fs:=by
   funext i
   simp only [plS,Array.getElem?_map]
   cases hi:fs[i]? with
   | none=>rfl
   | some f =>
    have hm:f∈fs.toList:=by
     have:=Array.mem_of_getElem? hi
     simpa using this
    have:=List.all_eq_true.1 hall f hm
    obtain ⟨t',ht'⟩:=Option.isSome_iff_exists.1 this
    simp [ht']
  rw [hpl,hf]
  rfl
 ·rename_i sz by_ n el ze hti
  have hti:=hΘ.get hti
  have hu:=run_underlying (P:=E.P) (w:=w) (Qas hti)
  obtain ⟨z,hz,hzc⟩:=Qin (w:=w) hti
  split at he
  case h_2=>cases he
  rename_i te hte
  rw [Option.map_eq_some_iff] at he
  obtain ⟨cs,he,rfl⟩:=he
  have hzr:Qah w (Qbg χ w) (· ∈ s.us) (tab s hd) (Qp2 ze) z.cells.toList []:=by rw [hzc];exact Qjy ze
  obtain ⟨arr,hf,hr⟩:=Qmb _ _ _ z.cells cs (Qn3 h ps) hzr he
  refine ⟨.agg arr,?_,by simp only [repR];exact ⟨arr.toList,by simp,hr⟩⟩
  simp only [Instr.build,Sem.run_bind,hz,hu,Result.andThen_ok,Qco (hΘ.get hte)]
  rw [hf]
  rfl
 ·cases he
def evMM (mx:Bool) : List AV→Option AV
 | [.lit (.int k a),.lit (.int _ b)]=>some (.lit (.int k (if mx then (if b > a then b else a) else (if b<a then b else a))))
 | _=>none
def Qsr (Θ:Tys) (s:St) (op:Op) : Option AV:=
 match op with
 | .move x=>some (Qal s x)
 | .assign x=>some (Qal s x)
 | .pick c a b=>match Qal s c with
  | .lit (.bool t)=>some (if t then Qal s a else Qal s b)
  | _=>none
 | .binOp op t x y _=>match Qal s x,Qal s y with
  | .lit (.bool u),.lit (.bool v)=>match op,Θ.lookup t with
   | .eql,some ⟨_,_,.bool,_⟩=>some (.lit (.bool (u == v)))
   | .neq,some ⟨_,_,.bool,_⟩=>some (.lit (.bool (!(u == v))))
   | _,_=>none
  | .lit u,.lit v=>(Qoz op u v).map .lit
  | _,_=>none
 | .unOp op _ x=>match Qal s x with
  | .lit u=>(Xk7 op u).map .lit
  | _=>none
 | .convert src dst x=>match Θ.lookup src,Θ.lookup dst,Qal s x with
  | some _,some ⟨_,_,.int k,_⟩,.lit (.int _ n)=>some (.lit (.int k (k.wrap n)))
  | _,_,_=>none
 | .load t p=>Qs5 Θ s t (Qal s p)
 | .fieldAddr t x f=>Qy9 Θ s t (Qal s x) f
 | .field t x f=>Qsi Θ t (Qal s x) f
 | .indexAddr t x i=>Xdw Θ s t (Qal s x) (Qal s i)
 | .index t x i=>Qpq Θ t (Qal s x) (Qal s i)
 | .slice t x lo hi none=>Qrl Θ s t (Qal s x) (lo.map (Qal s)) (hi.map (Qal s))
 | .nilCheck x=>match Qal s x with
  | .rop cs o=>some (.rop cs o)
  | .ptr id e o=>match s.root id with
   | some _=>some (.ptr id e o)
   | none=>none
  | _=>none
 | .extract x i=>match Qal s x with
  | .tup cs=>cs[i]?
  | _=>none
 | .build t ps=>Qv3 Θ s t ps
 | .makeFunc (.func g) first caps=>if first.size=0 then some (.fn g (caps.toList.map (Qal s))) else none
 | .call ⟨.builtin .len,args,tys⟩=>match args.toList,tys.toList with
  | [x],[t]=>Xcs Θ s t (Qal s x)
  | _,_=>none
 | .call ⟨.builtin .cap,args,tys⟩=>match args.toList,tys.toList with
  | [x],[t]=>match Θ.lookup t,Qal s x with
   | some ⟨_,_,.slice _,_⟩,.lit (.slice _ _ n)=>some (.lit (.int .i64 n))
   | _,_=>none
  | _,_=>none
 | .call ⟨.builtin .max,args,_⟩=>evMM true (args.toList.map (Qal s))
 | .call ⟨.builtin .min,args,_⟩=>evMM false (args.toList.map (Qal s))
 | _=>none
theorem Qi0 {E:Env} {s:St} {a:Act} {w:World} {χ:Nat→Option Nat} {hd:Nat→Value} (h:Qci E s a w χ hd) : ∀ l:List Operand,Qah w (Qbg χ w) (· ∈ s.us) (tab s hd) (l.map (Qal s)) (l.map a.eval) []
 | []=>by simp [Qah]
 | x :: l=>by
  simp only [List.map_cons,Qah]
  exact ⟨_,_,[],[],rfl,rfl,Qak h x,Qi0 h l⟩
theorem Qxg {E:Env} {s:St} {a:Act} {w:World} {χ:Nat→Option Nat} {hd:Nat→Value} (h:Qci E s a w χ hd) (x:Option Operand) : repO w (Qbg χ w) (· ∈ s.us) (tab s hd) (x.map (Qal s)) (x.map a.eval):=by
 cases x with
 | none=>rfl
 | some x=>exact ⟨_,rfl,Qak h x⟩
theorem Qob {w:World} {S U:Nat→Prop} {ρ:Tab} : ∀ (cs:List AV) (vs:List Value) (i:Nat) (c:AV),Qah w S U ρ cs vs []→cs[i]? = some c→∃ v,vs[i]? = some v∧repR w S U ρ c v []
 | [],_,i,c,_,h=>by simp at h
 | d :: cs,vs,i,c,h,he=>by
  simp only [Qah] at h
  obtain ⟨u,us,f1,f2,rfl,hf,h1,h2⟩:=h
  obtain ⟨rfl,rfl⟩:=List.append_eq_nil_iff.1 hf.symm
  cases i with
  | zero=>simp at he;subst he;exact ⟨u,rfl,h1⟩
  | succ i=>simp at he;simpa using Qob cs us i c h2 he
theorem Qgh {w:World} {S U:Nat→Prop} {ρ:Tab} {v u:Value} {fp:List Nat} (h:repR w S U ρ (.lit v) u fp) (hv:nf v=true:=by rfl) : u=v:=by simp only [repR,rep] at h;exact h.2.eq hv
theorem Qz2 {w:World} {S U:Nat→Prop} {ρ:Tab} {v u:Value} {fp:List Nat} (h:repR w S U ρ (.lit v) u fp) : VEq u v:=by simp only [repR,rep] at h;exact h.2
theorem Qy7 {E:Env} {s:St} {a:Act} {w:World} {χ:Nat→Option Nat} {hd:Nat→Value} {Θ:Tys} (hΘ:TOK E.P Θ) (h:Qci E s a w χ hd) {o:Oper} {r:AV} (he:Qsr Θ s o.op=some r) :
  ∃ v,(execOp a.eval o).run E.P w = .ok (.value v) w∧repR w (Qbg χ w) (· ∈ s.us) (tab s hd) r v []:=by
 obtain ⟨dst,op,type,pos,after,guard⟩:=o
 simp only at he
 unfold Qsr at he
 split at he
 ·cases he;exact ⟨_,by simp [execOp],Qak h _⟩
 ·cases he;exact ⟨_,by simp [execOp],Qak h _⟩
 ·rename_i c x y
  split at he
  case h_2=>cases he
  rename_i t ht
  cases he
  have hc:=Qak h c
  rw [ht] at hc
  have hc:=Qgh hc
  cases t
  ·exact ⟨a.eval y,by simp [execOp,hc,asBool],by simpa using Qak h y⟩
  ·exact ⟨a.eval x,by simp [execOp,hc,asBool],by simpa using Qak h x⟩
 ·rename_i op t x y _
  split at he
  ·rename_i u v hu hv
   have hx:=Qgh (hu ▸ Qak h x)
   have hy:=Qgh (hv ▸ Qak h y)
   split at he
   ·rename_i hti
    have hun:=run_underlying (P:=E.P) (w:=w) (Qas (hΘ.get hti))
    cases he
    refine ⟨_,?_,Qcs _⟩
    simp only [execOp,hx,hy,Sem.run_bind,eqGuard,Bool.not_true,Bool.false_eq_true,if_false,Sem.run_pure,Result.andThen_ok]
    rw [run_eql_bool w t u v (Qas (hΘ.get hti))]
    rfl
   ·rename_i hti
    have hun:=run_underlying (P:=E.P) (w:=w) (Qas (hΘ.get hti))
    cases he
    refine ⟨_,?_,Qcs _⟩
    simp only [execOp,hx,hy,Sem.run_bind,eqGuard,Bool.not_true,Bool.false_eq_true,if_false,Sem.run_pure,Result.andThen_ok]
    rw [run_neq_bool w t u v (Qas (hΘ.get hti))]
    rfl
   ·cases he
  ·rename_i u v _ hu hv
   rw [Option.map_eq_some_iff] at he
   obtain ⟨z,he,rfl⟩:=he
   have hx:=Qgh (hu ▸ Qak h x) (Qqv he).1
   have hy:=Qgh (hv ▸ Qak h y) (Qqv he).2
   refine ⟨z,?_,Qcs _⟩
   have:=Qr5 (P:=E.P) (w:=w) (X:=x) (Y:=y) (t:=t) he
   simp only [execOp,hx,hy]
   rw [Sem.run_bind,this]
   rfl
  ·cases he
 ·rename_i op t x
  split at he
  case h_2=>cases he
  rename_i u hu
  rw [Option.map_eq_some_iff] at he
  obtain ⟨z,he,rfl⟩:=he
  have hx:=Qgh (hu ▸ Qak h x) (Xic he)
  exact ⟨z,by simp [execOp,hx,Xam he],Qcs _⟩
 ·rename_i src dst x
  split at he
  case h_2=>cases he
  rename_i hts hti hu
  have hx:=Qgh (hu ▸ Qak h x)
  have hun:=run_underlying (P:=E.P) (w:=w) (Qas (hΘ.get hti))
  have hus:=run_underlying (P:=E.P) (w:=w) (Qas (hΘ.get hts))
  cases he
  refine ⟨_,?_,Qcs _⟩
  simp only [execOp,hx,Sem.run_bind,convert,hun,hus,Result.andThen_ok,Conv.intToInt,Sem.run_pure]
 ·rename_i t p
  obtain ⟨v,hr,hv⟩:=Qqh hΘ h (Qak h p) he
  exact ⟨v,by simp [execOp,hr],hv⟩
 ·rename_i t x f
  obtain ⟨v,hr,hv⟩:=Qum hΘ h (Qak h x) he
  exact ⟨v,by simp [execOp,hr],hv⟩
 ·rename_i t x f
  obtain ⟨v,hr,hv⟩:=Qv4 hΘ (Qak h x) he
  exact ⟨v,by simp [execOp,hr],hv⟩
 ·rename_i t x i
  obtain ⟨v,hr,hv⟩:=Qyg hΘ h (Qak h x) (Qak h i) he
  exact ⟨v,by simp [execOp,hr],hv⟩
 ·rename_i t x i
  obtain ⟨v,hr,hv⟩:=Qv2 hΘ (Qak h x) (Qak h i) he
  exact ⟨v,by simp [execOp,hr],hv⟩
 ·rename_i t x lo hi
  obtain ⟨v,hr,hv⟩:=Qv7 hΘ h (Qak h x) (Qxg h lo) (Qxg h hi) he
  exact ⟨v,by simp [execOp,hr],hv⟩
 ·rename_i x
  have hx:=Qak h x
  split at he
  ·rename_i cs o0 hcs
   cases he
   rw [hcs] at hx
   have hx0:=hx
   simp only [repR,rep] at hx
   obtain ⟨_,b,o1,vs,hu,_⟩:=hx
   exact ⟨a.eval x,by simp [execOp,hu],hx0⟩
  ·rename_i id e o0 hcs
   split at he
   case h_2=>cases he
   rename_i R hR
   cases he
   rw [hcs] at hx
   have hx0:=hx
   simp only [repR] at hx
   obtain ⟨_,_,hx⟩:=hx
   obtain ⟨_,b,m,c,_,hu⟩:=hx (hd id) R.xs.length R.sz (by simp [tab,hR])
   exact ⟨a.eval x,by simp [execOp,hu],hx0⟩
  ·cases he
 ·rename_i x i
  split at he
  case h_2=>cases he
  rename_i cs hcs
  have hx:=Qak h x
  rw [hcs] at hx
  simp only [repR] at hx
  obtain ⟨vs,hvs,hx⟩:=hx
  obtain ⟨v,hv,hr⟩:=Qob _ _ _ _ hx he
  exact ⟨v,by simp [execOp,hvs,Instr.extract,hv],hr⟩
 ·rename_i t ps
  obtain ⟨v,hr,hv⟩:=Qup hΘ h he
  exact ⟨v,by simp [execOp,hr],hv⟩
 ·rename_i g first caps
  split at he
  case isFalse=>cases he
  rename_i hf
  cases he
  have:first = #[]:=by simpa using hf
  subst this
  refine ⟨.func (.func g) #[] (caps.map a.eval),by simp [execOp,Instr.makeFunc],?_⟩
  simp only [repR]
  exact ⟨_,by rw [← Array.toList_map,Array.toArray_toList],Qi0 h caps.toList⟩
 ·rename_i args tys
  split at he
  case h_2=>cases he
  rename_i x t hx ht
  have hx:args = #[x]:=by rw [← Array.toArray_toList (xs:=args),hx]
  have ht:tys = #[t]:=by rw [← Array.toArray_toList (xs:=tys),ht]
  subst hx;subst ht
  obtain ⟨v,hr,hv⟩:=Qxk hΘ h (Qak h x) he (ty:=type)
  exact ⟨v,by simp [execOp,resolve,invoke,builtin,hr],hv⟩
 ·rename_i args tys
  split at he
  case h_2=>cases he
  rename_i x t hx ht
  have hx:args = #[x]:=by rw [← Array.toArray_toList (xs:=args),hx]
  have ht:tys = #[t]:=by rw [← Array.toArray_toList (xs:=tys),ht]
  subst hx;subst ht
  split at he
  case h_2=>cases he
  rename_i hti hxv
  have hu:=run_underlying (P:=E.P) (w:=w) (Qas (hΘ.get hti))
  cases he
  have hxe:=Qgh (hxv ▸ Qak h x)
  exact ⟨_,by simp [execOp,resolve,invoke,builtin,hxe,Builtin.cap_,hu,goInt],Qcs _⟩
 ·rename_i args tys
  unfold evMM at he
  split at he
  case h_2=>cases he
  rename_i k x k' y hxy
  cases he
  have hl:=Qi0 h args.toList
  rw [hxy] at hl
  simp only [Qah,repR,rep] at hl
  obtain ⟨u,us,f1,f2,hv,_,⟨_,rfl⟩,u',us',f1',f2',rfl,_,⟨_,rfl⟩,rfl,_⟩:=hl
  refine ⟨_,?_,Qcs _⟩
  simp [execOp,resolve,invoke,builtin,Builtin.max_,hv,Builtin.max2]
 ·rename_i args tys
  unfold evMM at he
  split at he
  case h_2=>cases he
  rename_i k x k' y hxy
  cases he
  have hl:=Qi0 h args.toList
  rw [hxy] at hl
  simp only [Qah,repR,rep] at hl
  obtain ⟨u,us,f1,f2,hv,_,⟨_,rfl⟩,u',us',f1',f2',rfl,_,⟨_,rfl⟩,rfl,_⟩:=hl
  refine ⟨_,?_,Qcs _⟩
  simp [execOp,resolve,invoke,builtin,Builtin.min_,hv,Builtin.min2]
 ·cases he
end Go.T
set_option linter.unusedVariables false
namespace Go.T
open Go Go.RowKit
theorem Qci.grow {E:Env} {s:St} {a:Act} {w w2:World} {χ:Nat→Option Nat} {hd:Nat→Value} (h:Qci E s a w χ hd) (hb:Below w.heap.size w w2) (hdr:w.drawn≤w2.drawn) (cl:Nat→Option Nat) (hcl : ∀ b r,cl b=some r→b<w2.heap.size) :
    Qci E s a w2 (fun b=>if b<w.heap.size then χ b else cl b) hd:=by
  have hS : ∀ b,Qbg χ w b→Qbg (fun b=>if b<w.heap.size then χ b else cl b) w2 b:=fun b hf=>⟨by simp [hf.2,hf.1],by have:=hf.2;have:=hb.size;omega⟩
  have hSh : ∀ b,Qbg χ w b→w2.heap[b]? = w.heap[b]?:=fun b hf=>hb.block b hf.2
  refine ⟨h.defers,h.size,hb.os.trans h.os,h.tape.trans ⟨hb.tape,hdr⟩,hb.output.trans h.output,by have:=h.hsz;have:=hb.size;omega,fun k h1 h2=>(hb.block k (by have:=h.hsz;omega)).trans (h.frame k h1 h2),h.fx,h.jj,h.rj,fun b hb=>by
    have h1:=h.jk b hb
    have h2:=(h.col b _ h1).2
    rw [if_pos h2];exact h1,?_,?_,?_⟩
  · intro b r hr
    split at hr
    · have:=h.col b r hr
      have h2:=hb.size
      exact ⟨this.1,by omega⟩
    · rename_i hlt
      exact ⟨fun _=>.inl (by have:=h.hsz;omega),hcl b r hr⟩
  · intro i R hR
    obtain ⟨h1,fp,h2,h3,h4⟩:=h.rts i R hR
    exact ⟨h1,fp,h2.mono hS hSh (fun b hbf=>hb.block b (h2.lt b hbf)) (fun _ x=>x) (fun _ _ _ x=>x),h3,fun b hbf=>by have:=h2.lt b hbf;simp [this,h4 b hbf]⟩
  · intro t
    exact Qcd _ _ _ (h.slots t) hS hSh (by simp) (fun _ x=>x) (fun _ _ _ x=>x)
theorem Qci.addRoot {E:Env} {s:St} {a:Act} {w:World} {χ:Nat→Option Nat} {hd:Nat→Value} (h:Qci E s a w χ hd) {i:Nat} (hi:i ∉ s.us) {R:Qae} {v:Value} {fp:List Nat}
  (hr:Qjt w (Qbg χ w) (· ∈ s.us) (tab s hd) R v fp) (hn:fp.Nodup) (hc : ∀ b∈fp,χ b=some i) : Qci E (s.add i R) a w χ (fun j=>if j=i then v else hd j):=by
 have hU : ∀ j,j∈s.us→j∈(s.add i R).us:=fun j hj=>List.mem_cons_of_mem _ hj
 have hρ : ∀ j,j∈s.us→∀ x,tab (s.add i R) (fun j=>if j=i then v else hd j) j=some x→tab s hd j=some x:=by
  intro j hj x hx
  have hne:j≠i:=fun e=>hi (e ▸ hj)
  simpa [tab,St.root_add_ne s hne,hne] using hx
 refine ⟨h.defers,h.size,h.os,h.tape,h.output,h.hsz,h.frame,Qxr h.fx hi,hU _ h.jj,by rw [St.root_add_ne s (by rintro rfl;exact hi h.jj)];exact h.rj,h.jk,h.col,?_,?_⟩
 ·intro j Q hQ
  by_cases hj:j=i
  ·subst hj
   rw [St.root_add_same] at hQ
   cases hQ
   refine ⟨List.mem_cons_self,fp,?_,hn,hc⟩
   simp only [if_true]
   exact hr.mono (fun _ x=>x) (fun _ _=>rfl) (fun _ _=>rfl) hU hρ
  ·rw [St.root_add_ne s hj] at hQ
   obtain ⟨h1,fq,h2,h3,h4⟩:=h.rts j Q hQ
   refine ⟨List.mem_cons_of_mem _ h1,fq,?_,h3,h4⟩
   simp only [hj,if_false]
   exact h2.mono (fun _ x=>x) (fun _ _=>rfl) (fun _ _=>rfl) hU hρ
 ·intro t
  exact Qcd _ _ _ (h.slots t) (fun _ x=>x) (fun _ _=>rfl) (by simp) hU hρ
theorem Qci.newRow {E:Env} {s:St} {a:Act} {w w2:World} {χ:Nat→Option Nat} {hd:Nat→Value} (h:Qci E s a w χ hd) {i j:Nat} (hj:j ∉ s.us) {row:Option Nat} (hg:w.grownBy w2 row) (hdr:w.drawn≤w2.drawn) (hrow : ∀ k,row=some k→χ k=some i) (hij:i≠JJ)
    {R:Qae} {v:Value} {vs:List Value} {fn:List Nat} (hz : 0<R.sz) (hown:w2.ownsRow 0 R.T R.sz v R.xs.length vs) (hrep:Qao w (Qbg χ w) (· ∈ s.us) (tab s hd) R.sz R.xs vs fn) (hfi : ∀ b∈fn,χ b=some i) (hfn:fn.Nodup)
    (hfr : ∀ b∈fn,row≠some b) (hv:v.ownBlock=row∨v.ownBlock=some w.heap.size) :
    ∃ χ',Qci E ((s.kill i).add j R) a w2 χ' (fun k=>if k=j then v else hd k):=by
  let fp:List Nat:=v.ownBlock.toList++fn
  let χ':Nat→Option Nat:=fun b=>if b∈fp then some j else if χ b=some i then none else if b<w.heap.size then χ b else none
  have hvlt : ∀ b,v.ownBlock=some b→b<w2.heap.size:=fun b hb=>Qma hown b (by simp [hb])
  have hfl : ∀ b∈fn,b<w.heap.size:=fun b hb=>(h.col b i (hfi b hb)).2
  have hfree : ∀ b,Qbg χ w b→b ∉ fp:=by
    intro b hb hm
    rcases List.mem_append.1 hm with hm | hm
    · have hm:v.ownBlock=some b:=by simpa using hm
      rcases hv with hv | hv
      · rw [hm] at hv;have:=hrow b hv.symm;rw [hb.1] at this;cases this
      · rw [hm] at hv;cases hv;have:=hb.2;omega
    · have:=hfi b hm;rw [hb.1] at this;cases this
  have hS : ∀ b,Qbg χ w b→Qbg χ' w2 b:=fun b hb=>⟨by simp [χ',hfree b hb,hb.1],by have:=hb.2;have:=hg.size;omega⟩
  have hSh : ∀ b,Qbg χ w b→w2.heap[b]? = w.heap[b]?:=fun b hb=>hg.block b hb.2 (fun e=>by have:=hrow b e.symm;rw [hb.1] at this;cases this)
  have hU : ∀ k,k∈s.us→k∈((s.kill i).add j R).us:=fun k hk=>List.mem_cons_of_mem _ hk
  have hρ : ∀ k,k∈s.us→∀ x,tab ((s.kill i).add j R) (fun k=>if k=j then v else hd k) k=some x→tab s hd k=some x:=by
    intro k hk x hx
    have hne:k≠j:=fun e=>hj (e ▸ hk)
    by_cases hki:k=i
    · subst hki
      simp [tab,St.root_add_ne _ hne,St.root_kill_same] at hx
    · simpa [tab,St.root_add_ne _ hne,St.root_kill_ne s hki,hne] using hx
  refine ⟨χ',⟨h.defers,h.size,hg.os.trans h.os,h.tape.trans ⟨hg.tape,hdr⟩,hg.output.trans h.output,by have:=h.hsz;have:=hg.size;omega,?_,Qxr h.fx hj,hU _ h.jj,by
    rw [St.root_add_ne _ (by rintro rfl;exact hj h.jj),St.root_kill_ne s (Ne.symm hij)];exact h.rj,fun b hb=>by
    have h1:=h.jk b hb
    have h2:=(h.col b _ h1).2
    have hne : χ b≠some i:=by rw [h1];exact fun e=>hij (by cases e;rfl)
    have hnf:b ∉ fp:=by
      intro hm
      rcases List.mem_append.1 hm with hm | hm
      · have hm:v.ownBlock=some b:=by simpa using hm
        rcases hv with hv | hv
        · rw [hm] at hv;exact hne (hrow b hv.symm)
        · rw [hm] at hv;cases hv;omega
      · exact hne (hfi b hm)
    show (if b∈fp then _ else _)=_
    rw [if_neg hnf,if_neg hne,if_pos h2];exact h1,?_,?_,?_⟩⟩
  · intro k h1 h2
    refine (hg.block k (by have:=h.hsz;omega) (fun e=>?_)).trans (h.frame k h1 h2)
    rcases (h.col k i (hrow k e.symm)).1 hij with hh | hh
    · omega
    · exact h2 hh
  · intro b r hr
    simp only [χ'] at hr
    split at hr
    · rename_i hm
      rcases List.mem_append.1 hm with hm | hm
      · have hm:v.ownBlock=some b:=by simpa using hm
        refine ⟨?_,hvlt b hm⟩
        rcases hv with hv | hv
        · rw [hm] at hv;exact fun _=>(h.col b i (hrow b hv.symm)).1 hij
        · rw [hm] at hv;cases hv;exact fun _=>.inl h.hsz
      · have:=h.col b i (hfi b hm)
        exact ⟨fun _=>this.1 hij,by have:=this.2;have:=hg.size;omega⟩
    · split at hr
      · cases hr
      · split at hr
        · have:=h.col b r hr
          exact ⟨this.1,by have:=this.2;have:=hg.size;omega⟩
        · cases hr
  · intro k Q hQ
    by_cases hk:k=j
    · subst hk
      rw [St.root_add_same] at hQ
      cases hQ
      refine ⟨List.mem_cons_self,fp,?_,?_,?_⟩
      · simp only [if_true]
        refine ⟨hz,vs,fn,hown,Qdi hS hSh hU hρ _ _ _ hrep (fun b hb=>hg.block b (hfl b hb) (fun e=>hfr b hb e.symm)),rfl⟩
      · simp only [fp]
        rw [List.nodup_append]
        refine ⟨by cases v.ownBlock <;> simp,hfn,?_⟩
        intro b hb b' hb' e
        subst e
        have hm:v.ownBlock=some b:=by simpa using hb
        rcases hv with hv | hv
        · rw [hm] at hv;exact hfr b hb' hv.symm
        · rw [hm] at hv;cases hv;have:=hfl _ hb';omega
      · intro b hb
        simp [χ',hb]
    · rw [St.root_add_ne _ hk] at hQ
      by_cases hki:k=i
      · subst hki;rw [St.root_kill_same] at hQ;cases hQ
      rw [St.root_kill_ne s hki] at hQ
      obtain ⟨h1,fq,h2,h3,h4⟩:=h.rts k Q hQ
      have hne : ∀ b∈fq,b ∉ fp:=by
        intro b hb hm
        have hbk:=h4 b hb
        rcases List.mem_append.1 hm with hm | hm
        · have hm:v.ownBlock=some b:=by simpa using hm
          rcases hv with hv | hv
          · rw [hm] at hv;have:=hrow b hv.symm;rw [hbk] at this;cases this;exact hki rfl
          · rw [hm] at hv;cases hv;have:=h2.lt _ hb;omega
        · have:=hfi b hm;rw [hbk] at this;cases this;exact hki rfl
      refine ⟨List.mem_cons_of_mem _ h1,fq,?_,h3,fun b hb=>?_⟩
      · simp only [hk,if_false]
        exact h2.mono hS hSh (fun b hb=>hg.block b (h2.lt b hb) (fun e=>by have:=hrow b e.symm;rw [h4 b hb] at this;cases this;exact hki rfl)) hU hρ
      · simp [χ',hne b hb,h4 b hb,hki,h2.lt b hb]
  · intro t
    exact Qcd _ _ _ (h.slots t) hS hSh (by simp) hU hρ
mutual
def Qw6:AV→Bool
 | .sl _ _ _ | .ptr _ _ _=>false
 | .agg cs=>Qeq cs
 | .tup cs=>Qeq cs
 | .fn _ cs=>Qeq cs
 | _=>true
def Qeq:List AV→Bool
 | []=>true
 | c :: cs=>Qw6 c && Qeq cs
end
def Qa1 (xs:List (List AV)) : Bool:=xs.all Qeq
mutual
theorem Qyz {w:World} {S U:Nat→Prop} {ρ:Tab} : ∀ (a:AV) (u:Value) (fp:List Nat),repR w S U ρ a u fp→Qw6 a=true→rep w S a u fp
 | .sl _ _ _,_,_,_,ht=>by simp [Qw6] at ht
 | .ptr _ _ _,_,_,_,ht=>by simp [Qw6] at ht
 | .agg cs,u,fp,h,ht=>by
  simp only [Qw6] at ht;simp only [repR] at h;simp only [rep]
  obtain ⟨vs,hu,hr⟩:=h
  exact ⟨vs,hu,Qe8 cs vs fp hr ht⟩
 | .tup cs,u,fp,h,ht=>by
  simp only [Qw6] at ht;simp only [repR] at h;simp only [rep]
  obtain ⟨vs,hu,hr⟩:=h
  exact ⟨vs,hu,Qe8 cs vs fp hr ht⟩
 | .fn g cs,u,fp,h,ht=>by
  simp only [Qw6] at ht;simp only [repR] at h;simp only [rep]
  obtain ⟨vs,hu,hr⟩:=h
  exact ⟨vs,hu,Qe8 cs vs fp hr ht⟩
 | .dead,u,fp,h,_=>by simpa only [repR] using h
 | .lit _,u,fp,h,_=>by simpa only [repR] using h
 | .ro _ _,u,fp,h,_=>by simpa only [repR] using h
 | .own _ _ _,u,fp,h,_=>by simpa only [repR] using h
 | .rop _ _,u,fp,h,_=>by simpa only [repR] using h
theorem Qe8 {w:World} {S U:Nat→Prop} {ρ:Tab} : ∀ (cs:List AV) (vs:List Value) (fp:List Nat),Qah w S U ρ cs vs fp→Qeq cs=true→Qfm w S cs vs fp
 | [],_,_,h,_=>by simpa only [Qfm,Qah] using h
 | c :: cs,vs,fp,h,ht=>by
  simp only [Qeq,Bool.and_eq_true] at ht
  simp only [Qah] at h;simp only [Qfm]
  obtain ⟨u,us,f1,f2,hv,hf,h1,h2⟩:=h
  exact ⟨u,us,f1,f2,hv,hf,Qyz c u f1 h1 ht.1,Qe8 cs us f2 h2 ht.2⟩
end
theorem Qey {w:World} {S U:Nat→Prop} {ρ:Tab} {sz:Nat} : ∀ (xs:List (List AV)) (vs:List Value) (fp:List Nat),Qao w S U ρ sz xs vs fp→Qa1 xs=true→Qdt w S sz xs vs fp
 | [],_,_,h,_=>by simpa only [Qdt,Qao] using h
 | x :: xs,vs,fp,h,ht=>by
  simp only [Qa1,List.all_cons,Bool.and_eq_true] at ht
  simp only [Qao] at h;simp only [Qdt]
  obtain ⟨us,us',f1,f2,hv,hf,hl,h1c,h1,h2⟩:=h
  exact ⟨us,us',f1,f2,hv,hf,hl,h1c,Qe8 x us f1 h1 ht.1,Qey xs us' f2 h2 ht.2⟩
theorem Qm8 {w:World} {e size n:Nat} {v:Value} {xs:List Value} (h:w.ownsRow 0 e size v n xs) : ∃ A cap,v = .slice A n cap∧n≤cap∧(0<n→∃ b,A=some ⟨b,0,none⟩)∧(v.ownBlock=none→n=0):=by
 rcases h.2 with ⟨rfl,rfl⟩ | ⟨g,cap,cur,rfl,_,_,hnc,_⟩
 ·exact ⟨none,0,rfl,Nat.le_refl _,fun h=>absurd h (Nat.lt_irrefl 0),fun _=>rfl⟩
 ·exact ⟨_,cap,rfl,hnc,fun _=>⟨g,rfl⟩,fun h=>by simp [Value.ownBlock] at h⟩
theorem Qjz {w:World} {e size n:Nat} {v:Value} {xs:List Value} (h:w.ownsRow 0 e size v n xs) : Xgd v size 0 n v:=by
 obtain ⟨A,cap,rfl,hc,hA,_⟩:=Qm8 h
 refine ⟨A,cap,rfl,hc,fun _=>⟨n,rfl⟩,fun hp=>?_⟩
 obtain ⟨b,rfl⟩:=hA hp
 exact ⟨b,n,cap,rfl,by simp⟩
theorem Qj2 {w:World} {e size n:Nat} {v:Value} {xs:List Value} (h:w.ownsRow 0 e size v n xs) : n≤0+sCap v:=by
 rcases h.2 with ⟨rfl,h1⟩ | ⟨g,cap,cur,rfl,_,_,h1,_⟩
 ·omega
 ·show n≤0+cap;omega
theorem Xf3 {w:World} {e size n sz':Nat} {v u:Value} {xs:List Value} (h:w.ownsRow 0 e size v n xs) (hs:Xgd v sz' 0 n u) : u=v:=by
 obtain ⟨A,cap,rfl,hc,hA,_⟩:=Qm8 h
 obtain ⟨A',cap',rfl,_,h0,_⟩:=hs
 obtain ⟨m,hm⟩:=h0 rfl
 simp only [Value.slice.injEq] at hm
 obtain ⟨rfl,_,rfl⟩:=hm
 rfl
theorem Qci.unpack {E:Env} {s:St} {a:Act} {w:World} {χ:Nat→Option Nat} {hd:Nat→Value} (h:Qci E s a w χ hd) {i j:Nat} (hj:j ∉ s.us) {R:Qae} (hR:s.root i=some R) {e o T sz:Nat} {x:List AV} {ys:List (List AV)} (he:R.xs[e]? = some x) (ho:x[o]? = some (.own T sz ys)) (hz : 0<sz) :
    Rel E ((s.setR i ⟨R.T,R.sz,R.xs.set e (x.set o (.sl j 0 ys.length))⟩).add j ⟨T,sz,ys⟩) a w:=by
  obtain ⟨hus,fp,⟨hz0,vs,fp',hown,hrep,rfl⟩,hnd,hcol⟩:=h.rts i R hR
  have helt:e<R.xs.length:=(List.getElem?_eq_some_iff.1 he).1
  have holt:o<x.length:=(List.getElem?_eq_some_iff.1 ho).1
  have hji:j≠i:=fun e=>hj (e ▸ hus)
  have hij:i≠JJ:=fun e=>by rw [e,h.rj] at hR;cases hR
  obtain ⟨v1,us,v2,f1,fe,f2,rfl,rfl,hl1,hlus,h1c,k1,kx,k2⟩:=Qg8 hrep he
  obtain ⟨x1,u0,x2,g1,gc,g2,rfl,rfl,hlx,m1,mc,m2⟩:=Qox kx ho
  simp only [repR,rep] at mc
  obtain ⟨ws,fq,hown2,hrep2,rfl⟩:=mc
  let fc:=u0.ownBlock.toList++fq
  let fi:=(hd i).ownBlock.toList++(f1++(g1++g2)++f2)
  have hfc : ∀ b∈fc,χ b=some i:=fun b hb=>hcol b (by simp only [List.mem_append] at hb ⊢; exact .inr (.inl (.inr (.inl (.inr (by simpa [fc] using hb))))))
  have hfi : ∀ b∈fi,χ b=some i∧b ∉ fc:=by
    have hh:((hd i).ownBlock.toList++(f1++(g1++fc++g2)++f2)).Nodup:=hnd
    intro b hb
    constructor
    · refine hcol b ?_
      simp only [fi,List.mem_append] at hb ⊢
      rcases hb with hb | (hb | hb | hb) | hb
      · exact .inl hb
      · exact .inr (.inl (.inl hb))
      · exact .inr (.inl (.inr (.inl (.inl hb))))
      · exact .inr (.inl (.inr (.inr hb)))
      · exact .inr (.inr hb)
    · intro hc
      have hp:List.Perm ((hd i).ownBlock.toList++(f1++(g1++fc++g2)++f2)) (fi++fc):=by
        simp only [fi,List.append_assoc]
        refine List.Perm.append_left _ (List.Perm.append_left _ (List.Perm.append_left _ ?_))
        rw [← List.append_assoc g2]
        exact List.perm_append_comm
      have:=(hp.nodup_iff).1 hh
      rw [List.nodup_append] at this
      exact this.2.2 b hb b hc rfl
  have hfin:fi.Nodup∧fc.Nodup:=by
    have hp:List.Perm ((hd i).ownBlock.toList++(f1++(g1++fc++g2)++f2)) (fi++fc):=by
      simp only [fi,List.append_assoc]
      refine List.Perm.append_left _ (List.Perm.append_left _ (List.Perm.append_left _ ?_))
      rw [← List.append_assoc g2]
      exact List.perm_append_comm
    have:=(hp.nodup_iff).1 hnd
    rw [List.nodup_append] at this
    exact ⟨this.1,this.2.1⟩
  let χ':Nat→Option Nat:=fun b=>if b∈fc then some j else χ b
  let hd':Nat→Value:=fun k=>if k=j then u0 else hd k
  let s':=(s.setR i ⟨R.T,R.sz,R.xs.set e (x.set o (.sl j 0 ys.length))⟩).add j ⟨T,sz,ys⟩
  have hS : ∀ b,Qbg χ w b→Qbg χ' w b:=fun b hb=>⟨by
    have:b ∉ fc:=fun hc=>by have:=hfc b hc;rw [hb.1] at this;cases this
    simp [χ',this,hb.1],hb.2⟩
  have hU : ∀ k,k∈s.us→k∈s'.us:=fun k hk=>List.mem_cons_of_mem _ hk
  have hρ : ∀ k,k∈s.us→∀ x,tab s' hd' k=some x→tab s hd k=some x:=by
    intro k hk x hx
    have hne:k≠j:=fun e=>hj (e ▸ hk)
    by_cases hki:k=i
    · subst hki
      simpa [tab,s',hd',St.root_add_ne _ hne,St.root_setR_same,hne,hR] using hx
    · simpa [tab,s',hd',St.root_add_ne _ hne,St.root_setR_ne s hki,hne] using hx
  refine ⟨χ',hd',⟨h.defers,h.size,h.os,h.tape,h.output,h.hsz,h.frame,Qxr h.fx hj,hU _ h.jj,by
    rw [St.root_add_ne _ (by rintro rfl;exact hj h.jj),St.root_setR_ne s (Ne.symm hij)];exact h.rj,fun b hb=>by
    have h1:=h.jk b hb
    show (if b∈fc then _ else _)=_
    rw [if_neg (fun hm=>by have h2:=hfc b hm;rw [h1] at h2;exact hij (by cases h2;rfl))];exact h1,?_,?_,?_⟩⟩
  · intro b r hr
    simp only [χ'] at hr
    split at hr
    · rename_i hm;exact ⟨fun _=>(h.col b i (hfc b hm)).1 hij,(h.col b i (hfc b hm)).2⟩
    · exact h.col b r hr
  · intro k Q hQ
    by_cases hk:k=j
    · subst hk
      rw [St.root_add_same] at hQ
      cases hQ
      refine ⟨List.mem_cons_self,fc,⟨hz,ws,fq,by simpa [hd'] using hown2,?_,by simp [fc,hd']⟩,hfin.2,fun b hb=>by simp [χ',hb]⟩
      exact Qi1 _ _ _ (Qex sz _ _ _ hrep2 hS (fun _ _=>rfl) (fun _ _=>rfl))
    · rw [St.root_add_ne _ hk] at hQ
      by_cases hki:k=i
      · subst hki
        rw [St.root_setR_same] at hQ
        cases hQ
        refine ⟨hU _ hus,fi,⟨hz0,v1++(x1++u0 :: x2)++v2,f1++(g1++g2)++f2,by simpa [hd',hk] using hown,?_,by simp [fi,hd',hk]⟩,hfin.1,fun b hb=>by simp [χ',(hfi b hb).1,(hfi b hb).2]⟩
        have hc:repR w (Qbg χ' w) (· ∈ s'.us) (tab s' hd') (.sl j 0 ys.length) u0 []:=by
          simp only [repR]
          refine ⟨trivial,List.mem_cons_self,?_⟩
          intro h' n' sz' hh'
          simp [tab,s',hd',St.root_add_same] at hh'
          obtain ⟨rfl,rfl,rfl⟩:=hh'
          exact ⟨by omega,Qjz hown2,Qj2 hown2⟩
        have m1':=Qdx (w2:=w) (S2:=Qbg χ' w) (U2:=(· ∈ s'.us)) (ρ2:=tab s' hd') _ _ _ m1 hS (fun _ _=>rfl) (fun _ _=>rfl) hU hρ
        have m2':=Qdx (w2:=w) (S2:=Qbg χ' w) (U2:=(· ∈ s'.us)) (ρ2:=tab s' hd') _ _ _ m2 hS (fun _ _=>rfl) (fun _ _=>rfl) hU hρ
        have k1':=Qdi (w2:=w) (S2:=Qbg χ' w) (U2:=(· ∈ s'.us)) (ρ2:=tab s' hd') hS (fun _ _=>rfl) hU hρ _ _ _ k1 (fun _ _=>rfl)
        have k2':=Qdi (w2:=w) (S2:=Qbg χ' w) (U2:=(· ∈ s'.us)) (ρ2:=tab s' hd') hS (fun _ _=>rfl) hU hρ _ _ _ k2 (fun _ _=>rfl)
        have hrow:=Qr4 holt m1' hc m2'
        rw [show g1++[]++g2=g1++g2 by simp] at hrow
        exact Qip helt k1' hlus h1c hrow k2'
      · rw [St.root_setR_ne s hki] at hQ
        obtain ⟨q1,fr,q2,q3,q4⟩:=h.rts k Q hQ
        refine ⟨hU _ q1,fr,?_,q3,fun b hb=>?_⟩
        · simp only [hd',hk,if_false]
          exact q2.mono hS (fun _ _=>rfl) (fun _ _=>rfl) hU hρ
        · have:b ∉ fc:=fun hc=>by have h1:=hfc b hc;rw [q4 b hb] at h1;cases h1;exact hki rfl
          simp [χ',this,q4 b hb]
  · intro t
    exact Qcd _ _ _ (h.slots t) hS (fun _ _=>rfl) (by simp) hU hρ
theorem Qci.pack {E:Env} {s:St} {a:Act} {w:World} {χ:Nat→Option Nat} {hd:Nat→Value} (h:Qci E s a w χ hd) {i j:Nat} (hij:j≠i) {R Y:Qae} (hR:s.root i=some R) (hY:s.root j=some Y) {e o:Nat} {x:List AV} (he:R.xs[e]? = some x) (ho:x[o]? = some (.sl j 0 Y.xs.length)) (ht:Qa1 Y.xs=true) :
    Rel E ((s.setR i ⟨R.T,R.sz,R.xs.set e (x.set o (.own Y.T Y.sz Y.xs))⟩).kill j) a w:=by
  obtain ⟨hus,fp,⟨hz0,vs,fp',hown,hrep,rfl⟩,hnd,hcol⟩:=h.rts i R hR
  obtain ⟨hus2,fc,⟨hz,ws,fq,hown2,hrep2,rfl⟩,hnd2,hcol2⟩:=h.rts j Y hY
  have hiJ:i≠JJ:=fun e=>by rw [e,h.rj] at hR;cases hR
  have hjJ:j≠JJ:=fun e=>by rw [e,h.rj] at hY;cases hY
  have helt:e<R.xs.length:=(List.getElem?_eq_some_iff.1 he).1
  have holt:o<x.length:=(List.getElem?_eq_some_iff.1 ho).1
  obtain ⟨v1,us,v2,f1,fe,f2,rfl,rfl,hl1,hlus,h1c,k1,kx,k2⟩:=Qg8 hrep he
  obtain ⟨x1,u0,x2,g1,gc,g2,rfl,rfl,hlx,m1,mc,m2⟩:=Qox kx ho
  simp only [repR] at mc
  obtain ⟨rfl,_,mc⟩:=mc
  have hu0:u0=hd j:=Xf3 hown2 (mc (hd j) Y.xs.length Y.sz (by simp [tab,hY])).2.1
  subst hu0
  let fc:=(hd j).ownBlock.toList++fq
  let fi:=(hd i).ownBlock.toList++(f1++(g1++fc++g2)++f2)
  have hold:((hd i).ownBlock.toList++(f1++(g1++g2)++f2)).Nodup:=by simpa using hnd
  have hcol' : ∀ b∈(hd i).ownBlock.toList++(f1++(g1++g2)++f2),χ b=some i:=by simpa using hcol
  have hp:List.Perm fi (((hd i).ownBlock.toList++(f1++(g1++g2)++f2))++fc):=by
    simp only [fi,List.append_assoc]
    refine List.Perm.append_left _ (List.Perm.append_left _ (List.Perm.append_left _ ?_))
    rw [← List.append_assoc g2]
    exact List.perm_append_comm
  let χ':Nat→Option Nat:=fun b=>if χ b=some j then some i else χ b
  let s':=(s.setR i ⟨R.T,R.sz,R.xs.set e (x.set o (.own Y.T Y.sz Y.xs))⟩).kill j
  have hS : ∀ b,Qbg χ w b→Qbg χ' w b:=fun b hb=>⟨by simp [χ',hb.1],hb.2⟩
  have hρ : ∀ k,k∈s.us→∀ x,tab s' hd k=some x→tab s hd k=some x:=by
    intro k hk x hx
    by_cases hkj:k=j
    · subst hkj;simp [tab,s',St.root_kill_same] at hx
    · by_cases hki:k=i
      · subst hki
        simpa [tab,s',St.root_kill_ne _ hkj,St.root_setR_same,hR] using hx
      · simpa [tab,s',St.root_kill_ne _ hkj,St.root_setR_ne s hki] using hx
  refine ⟨χ',hd,⟨h.defers,h.size,h.os,h.tape,h.output,h.hsz,h.frame,h.fx,h.jj,by
    rw [St.root_kill_ne _ (Ne.symm hjJ),St.root_setR_ne s (Ne.symm hiJ)];exact h.rj,fun b hb=>by
    have h1:=h.jk b hb
    show (if χ b=some j then _ else _)=_
    rw [if_neg (by rw [h1];exact fun e=>hjJ (by cases e;rfl))];exact h1,?_,?_,?_⟩⟩
  · intro b r hr
    simp only [χ'] at hr
    split at hr
    · rename_i hm;exact ⟨fun _=>(h.col b j hm).1 hjJ,(h.col b j hm).2⟩
    · exact h.col b r hr
  · intro k Q hQ
    by_cases hkj:k=j
    · subst hkj;rw [St.root_kill_same] at hQ;cases hQ
    rw [St.root_kill_ne _ hkj] at hQ
    by_cases hki:k=i
    · subst hki
      rw [St.root_setR_same] at hQ
      cases hQ
      refine ⟨hus,fi,⟨hz0,v1++(x1++hd j :: x2)++v2,f1++(g1++fc++g2)++f2,by simpa using hown,?_,rfl⟩,?_,?_⟩
      · have hc:repR w (Qbg χ' w) (· ∈ s'.us) (tab s' hd) (.own Y.T Y.sz Y.xs) (hd j) fc:=by
          simp only [repR,rep]
          exact ⟨ws,fq,hown2,Qex _ _ _ _ (Qey _ _ _ hrep2 ht) hS (fun _ _=>rfl) (fun _ _=>rfl),rfl⟩
        have m1':=Qdx (w2:=w) (S2:=Qbg χ' w) (U2:=(· ∈ s'.us)) (ρ2:=tab s' hd) _ _ _ m1 hS (fun _ _=>rfl) (fun _ _=>rfl) (fun _ y=>y) hρ
        have m2':=Qdx (w2:=w) (S2:=Qbg χ' w) (U2:=(· ∈ s'.us)) (ρ2:=tab s' hd) _ _ _ m2 hS (fun _ _=>rfl) (fun _ _=>rfl) (fun _ y=>y) hρ
        have k1':=Qdi (w2:=w) (S2:=Qbg χ' w) (U2:=(· ∈ s'.us)) (ρ2:=tab s' hd) hS (fun _ _=>rfl) (fun _ y=>y) hρ _ _ _ k1 (fun _ _=>rfl)
        have k2':=Qdi (w2:=w) (S2:=Qbg χ' w) (U2:=(· ∈ s'.us)) (ρ2:=tab s' hd) hS (fun _ _=>rfl) (fun _ y=>y) hρ _ _ _ k2 (fun _ _=>rfl)
        exact Qip helt k1' hlus h1c (Qr4 holt m1' hc m2') k2'
      · rw [hp.nodup_iff,List.nodup_append]
        refine ⟨hold,hnd2,?_⟩
        intro b hb b' hb' e
        subst e
        have h1:=hcol' b hb
        rw [hcol2 b hb'] at h1
        cases h1;exact hij rfl
      · intro b hb
        rcases List.mem_append.1 ((hp.mem_iff).1 hb) with hb | hb
        · have h1:=hcol' b hb
          simp [χ',h1]
        · simp [χ',hcol2 b hb]
    · rw [St.root_setR_ne s hki] at hQ
      obtain ⟨q1,fr,q2,q3,q4⟩:=h.rts k Q hQ
      refine ⟨q1,fr,q2.mono hS (fun _ _=>rfl) (fun _ _=>rfl) (fun _ y=>y) hρ,q3,fun b hb=>?_⟩
      have h1:=q4 b hb
      simp [χ',h1,hkj]
  · intro t
    exact Qcd _ _ _ (h.slots t) hS (fun _ _=>rfl) (by simp) (fun _ y=>y) hρ
end Go.T
set_option linter.unusedVariables false
namespace Go.T
open Go Go.RowKit
def Qm5 (E:Env) (o:Oper) (s s':St) : Prop:=∀ a w,Rel E s a w→∀ (K:Act→World→Prop) (Q:Exit→Act→World→Prop),(∀ a' w',Rel E s' a' w'→K a' w')→o.wp E.P a w K Q
def St.putO (s:St) : Option Nat→AV→St
 | some d,v=>s.put d v
 | none,_=>s
def okD (n:Nat) : Option Nat→Bool
 | some d=>decide (d<n)
 | none=>true
theorem Qci.putO {E:Env} {s:St} {a:Act} {w:World} {χ:Nat→Option Nat} {hd:Nat→Value} (h:Qci E s a w χ hd) {d:Option Nat} (hd':okD E.n d=true) {r:AV} {v:Value} (hr:repR w (Qbg χ w) (· ∈ s.us) (tab s hd) r v []) :
  Qci E (s.putO d r) (a.put d v) w χ hd:=by
 cases d with
 | none=>exact h
 | some d=>exact h.put (by simpa [okD] using hd') hr
theorem Qei {P:Program} {o:Oper} {a:Act} {w w':World} {v:Value} {K:Act→World→Prop} {Q:Exit→Act→World→Prop} (h:(execOp a.eval o).run P w = .ok (.value v) w') (hk:K (a.put o.dst v) w') : o.wp P a w K Q:=by
 unfold Oper.wp
 rw [h]
 exact hk
theorem Qze {E:Env} {Θ:Tys} (hΘ:TOK E.P Θ) {o:Oper} {s:St} {r:AV} (hd:okD E.n o.dst=true) (he:Qsr Θ s o.op=some r) : Qm5 E o s (s.putO o.dst r):=by
 rintro a w ⟨χ,hd',h⟩ K Q hk
 obtain ⟨v,hr,hv⟩:=Qy7 hΘ h he
 exact Qei hr (hk _ _ ⟨χ,hd',h.putO hd hv⟩)
def Qkz (sz:Nat) : Nat→List AV→List (List AV)
 | 0,_=>[]
 | n+1,cs=>cs.take sz :: Qkz sz n (cs.drop sz)
theorem Qh3 (sz:Nat) : ∀ n cs,(Qkz sz n cs).length=n
 | 0,_=>rfl
 | n+1,cs=>by simp [Qkz,Qh3 sz n]
theorem Qnw {w:World} {S U:Nat→Prop} {ρ:Tab} {sz:Nat} : ∀ (n:Nat) (cs:List AV) (vs:List Value),cs.length=n * sz→Qah w S U ρ cs vs []→(∀ u∈vs,u.oneCell'=true)→Qao w S U ρ sz (Qkz sz n cs) vs []
 | 0,cs,vs,hl,hr,_=>by
  have:cs=[]:=List.eq_nil_of_length_eq_zero (by simpa using hl)
  subst this
  simp only [Qah] at hr
  simp only [Qkz,Qao]
  exact hr
 | n+1,cs,vs,hl,hr,h1=>by
  have hlv:=Qb4 _ _ _ hr
  obtain ⟨h2,h3⟩:=Qsd hr sz
  simp only [Qkz,Qao]
  rw [Nat.add_mul,Nat.one_mul] at hl
  refine ⟨vs.take sz,vs.drop sz,[],[],by rw [List.take_append_drop],rfl,by rw [List.length_take];omega,fun u hu=>h1 u (List.mem_of_mem_take hu),h2,?_⟩
  exact Qnw n _ _ (by rw [List.length_drop];omega) h3 (fun u hu=>h1 u (List.mem_of_mem_drop hu))
theorem Qpf {w:World} {S U:Nat→Prop} {ρ:Tab} {z:List Value} (hz : 0<z.length) (h1 : ∀ u∈z,u.oneCell'=true) : ∀ (n:Nat) (L:List Value),L.length=n * z.length→(∀ k,k<n * z.length→L[k]? = z[k % z.length]?)→Qao w S U ρ z.length (List.replicate n (Qp2 z)) L []
 | 0,L,hl,_=>by
  have:L=[]:=List.eq_nil_of_length_eq_zero (by simpa using hl)
  subst this
  simp only [List.replicate_zero,Qao]
  exact ⟨trivial,trivial⟩
 | n+1,L,hl,hk=>by
  rw [Nat.add_mul,Nat.one_mul] at hl
  have e:L.take z.length=z:=by
   apply List.ext_getElem?
   intro i
   rw [List.getElem?_take]
   split
   ·rename_i hi
    rw [hk i (by rw [Nat.add_mul,Nat.one_mul];omega),Nat.mod_eq_of_lt hi]
   ·rw [List.getElem?_eq_none (by omega)]
  simp only [List.replicate_succ,Qao]
  refine ⟨z,L.drop z.length,[],[],by conv=>lhs;rw [← List.take_append_drop z.length L,e],rfl,rfl,h1,Qjy z,?_⟩
  refine Qpf hz h1 n _ (by rw [List.length_drop];omega) (fun k hkk=>?_)
  rw [List.getElem?_drop,hk _ (by rw [Nat.add_mul,Nat.one_mul];omega),Nat.add_mod_left]
theorem Qq7 (z:Array Value) (m:Nat) (hz : 0<z.size) (k:Nat) (hk:k<m) : (madeCells z m).toList[k]? = z.toList[k % z.toList.length]?:=by
 have h1:k % z.size<z.size:=Nat.mod_lt _ hz
 simp only [madeCells,Array.toList_map,List.getElem?_map,Array.length_toList]
 simp [hk,h1]
def zOK (ti:TI) : Bool:=decide (0<ti.sz) && decide (ti.zero.length=ti.sz) && ti.zero.all (fun v=>v.oneCell' && nf v)
theorem Qvn {ti:TI} (h:zOK ti=true) : 0<ti.sz∧ti.zero.length=ti.sz∧∀ u∈ti.zero,u.oneCell'=true:=by
 simp only [zOK,Bool.and_eq_true,decide_eq_true_eq,List.all_eq_true] at h
 exact ⟨h.1.1,h.1.2,fun u hu=>(h.2 u hu).1⟩
def Qsn (Θ:Tys) (s:St) (op:Op) (id:Nat) : Option (Qae×AV):=
  match op with
  | .alloc t=>match Θ.lookup t with
    | some ti=>if zOK ti then some (⟨t,ti.sz,[Qp2 ti.zero]⟩,.ptr id 0 0) else none
    | none=>none
  | .box t x=>if (cellsOf (Qal s x)).all (Qeh s) then (if 0<(cellsOf (Qal s x)).length then some (⟨t,(cellsOf (Qal s x)).length,[cellsOf (Qal s x)]⟩,.ptr id 0 0) else none) else none
  | .makeSlice t l c=>match Θ.lookup t,Qal s l,Qal s c with
    | some ⟨_,_,.slice el,_⟩,.lit (.int _ n),.lit (.int _ m)=>match Θ.lookup el with
      | some te=>if zOK te then (if n≤m then (if 0≤n then (if m * te.bytes≤140737488355328 then (if m≤140737488355328 then some (⟨el,te.sz,List.replicate n.toNat (Qp2 te.zero)⟩,.sl id 0 n.toNat) else none) else none) else none) else none) else none
      | none=>none
    | _,_,_=>none
  | .buildSlice t n ps=>match Θ.lookup t with
    | some ⟨_,_,.slice el,_⟩=>match Θ.lookup el with
      | some te=>if zOK te then (if n * te.sz≤16777216 then (match Qmz s (fun i=>some (i * te.sz,te.sz)) (Qp2 (List.replicate n te.zero).flatten) (Qja s ps) with
          | some cs=>if cs.all (Qeh s) then (if cs.length=n * te.sz then some (⟨el,te.sz,Qkz te.sz n cs⟩,.sl id 0 n) else none) else none
          | none=>none) else none) else none
      | none=>none
    | _=>none
  | _=>none
theorem Xk8 {s:St} {id n:Nat} {R:Qae} {hd:Nat→Value} {w:World} {S U:Nat→Prop} {b cap:Nat} (hU:U id) (hn:n=R.xs.length) (hc:n≤cap) : repR w S U (tab (s.add id R) (fun j=>if j=id then .slice (some ⟨b,0,none⟩) R.xs.length cap else hd j)) (.sl id 0 n) (.slice (some ⟨b,0,none⟩) n cap) []:=by
 simp only [repR]
 refine ⟨trivial,hU,?_⟩
 intro h' n' sz hh
 simp [tab,St.root_add_same] at hh
 obtain ⟨rfl,rfl,rfl⟩:=hh
 subst hn
 exact ⟨by omega,⟨_,_,rfl,hc,fun _=>⟨_,rfl⟩,fun _=>⟨b,_,_,rfl,by simp⟩⟩,(by show R.xs.length≤0+cap;omega)⟩
theorem Xge {s:St} {id:Nat} {R:Qae} {hd:Nat→Value} {w:World} {S U:Nat→Prop} {b n cap:Nat} (hU:U id) (hn : 0<R.xs.length) : repR w S U (tab (s.add id R) (fun j=>if j=id then .slice (some ⟨b,0,none⟩) n cap else hd j)) (.ptr id 0 0) (.pointer (some ⟨b,0,none⟩)) []:=by
 simp only [repR]
 refine ⟨trivial,hU,?_⟩
 intro h' n' sz hh
 simp [tab,St.root_add_same] at hh
 obtain ⟨rfl,rfl,rfl⟩:=hh
 exact ⟨hn,b,_,_,rfl,by simp⟩
theorem Qz9 {E:Env} {Θ:Tys} (hΘ:TOK E.P Θ) {o:Oper} {s:St} {R:Qae} {r:AV} (id:Nat) (hid:id ∉ s.us) (hd:okD E.n o.dst=true) (he:Qsn Θ s o.op id=some (R,r)) : Qm5 E o s ((s.add id R).putO o.dst r):=by
  rintro a w ⟨χ,hd',h⟩ K Q hk
  obtain ⟨dst,op,type,pos,after,guard⟩:=o
  simp only at he hd hk
  have hus:id∈(s.add id R).us:=List.mem_cons_self
  unfold Qsn at he
  split at he
  · rename_i t
    split at he
    case h_2=>cases he
    rename_i ti hti
    split at he
    case isFalse=>cases he
    rename_i hz
    cases he
    obtain ⟨z0,z1,z2⟩:=Qvn hz
    obtain ⟨z,hzr,hzc⟩:=Qin (P:=E.P) (w:=w) (hΘ.get hti)
    have hsz:z.cells.size=ti.sz:=by rw [← Array.length_toList,hzc,z1]
    have hrel:=h.alloc hid (R:=⟨t,ti.sz,[Qp2 ti.zero]⟩) (cs:=z.cells) (n:=1) z0 (by simp) (by simp [maxLen]) (by simp [hsz]) (by
      have:z.cells.toList.take (([Qp2 ti.zero] : List (List AV)).length * ti.sz)=ti.zero:=by rw [hzc];exact List.take_of_length_le (by simp [z1])
      rw [this]
      have hz':=Qpf (w:=w) (S:=Qbg χ w) (U:=(· ∈ s.us)) (ρ:=tab s hd') (z:=ti.zero) (by omega) z2 1 ti.zero (by simp) (fun k hk=>by rw [Nat.one_mul] at hk;rw [Nat.mod_eq_of_lt hk])
      rw [z1] at hz'
      exact hz')
    refine Qei (v:=.pointer (some ⟨w.heap.size,0,none⟩)) (w':=w.alloc (.cells z.cells t)) ?_ (hk _ _ ⟨_,_,hrel.putO hd (Xge hus (by simp))⟩)
    simp only [execOp,Instr.alloc,Sem.run_bind,hzr,Result.andThen_ok]
    rfl
  · rename_i t x
    split at he
    case isFalse=>cases he
    rename_i hok
    split at he
    case isFalse=>cases he
    rename_i hpos
    cases he
    have hc:=Qiy (Qak h x) hok
    have hl:=Qb4 _ _ _ hc
    have h1c:=Qn6 _ _ _ hc hok
    have hrel:=h.alloc hid (R:=⟨t,(cellsOf (Qal s x)).length,[cellsOf (Qal s x)]⟩) (cs:=(a.eval x).cells) (n:=1) hpos (by simp) (by simp [maxLen]) (by simp [← hl]) (by
      have:(a.eval x).cells.toList.take (([cellsOf (Qal s x)] : List (List AV)).length * (cellsOf (Qal s x)).length)=(a.eval x).cells.toList:=List.take_of_length_le (by simp [← hl])
      rw [this]
      simp only [Qao]
      exact ⟨_,[],[],[],by simp,rfl,hl,h1c,hc,rfl,rfl⟩)
    refine Qei (v:=.pointer (some ⟨w.heap.size,0,none⟩)) (w':=w.alloc (.cells (a.eval x).cells t)) ?_ (hk _ _ ⟨_,_,hrel.putO hd (Xge hus (by simp))⟩)
    simp only [execOp,Instr.box,Sem.run_bind]
    rfl
  · rename_i t l c
    split at he
    case h_2=>cases he
    rename_i sz_ by_ el ze k1 n k2 m hti hl hc
    split at he
    case h_2=>cases he
    rename_i te hte
    split at he
    case isFalse=>cases he
    rename_i hz
    split at he
    case isFalse=>cases he
    rename_i hnm
    split at he
    case isFalse=>cases he
    rename_i h0
    split at he
    case isFalse=>cases he
    rename_i hb
    split at he
    case isFalse=>cases he
    rename_i hb2
    cases he
    obtain ⟨z0,z1,z2⟩:=Qvn hz
    obtain ⟨i,z,hi,his,hib,hiz,hzc⟩:=Qo0 (hΘ.get hte)
    have hxl:=Qgh (hl ▸ Qak h l)
    have hxc:=Qgh (hc ▸ Qak h c)
    have hsz:z.cells.size=te.sz:=by rw [← Array.length_toList,hzc,z1]
    have hrun:=run_make (P:=E.P) w t el i z (Qas (hΘ.get hti)) hi hiz k1 k2 n m h0 hnm (by rw [hib];rw [Int.mul_comm];omega) (by omega)
    rw [his] at hrun
    have hmn:n.toNat * te.sz≤m.toNat * te.sz:=Nat.mul_le_mul_right _ (by omega)
    have hrel:=h.alloc hid (R:=⟨el,te.sz,List.replicate n.toNat (Qp2 te.zero)⟩) (cs:=madeCells z.cells (m.toNat * te.sz)) (n:=m.toNat) z0 (by simp;omega) (by simp [maxLen];omega) (size_madeCells _ _) (by
      have:=Qpf (w:=w) (S:=Qbg χ w) (U:=(· ∈ s.us)) (ρ:=tab s hd') (z:=te.zero) (by omega) z2 n.toNat ((madeCells z.cells (m.toNat * te.sz)).toList.take (n.toNat * te.sz)) (by rw [List.length_take,Array.length_toList,size_madeCells,z1];omega) (fun k hk=>by
        rw [z1] at hk
        rw [List.getElem?_take,if_pos hk,Qq7 _ _ (by omega) _ (by omega),hzc])
      rw [z1] at this
      simpa using this)
    refine Qei (v:=.slice (some ⟨w.heap.size,0,none⟩) n.toNat m.toNat) (w':=w.alloc (.cells (madeCells z.cells (m.toNat * te.sz)) el)) ?_ (hk _ _ ⟨_,_,hrel.putO hd (by
      simp only [List.length_replicate]
      have:=Xk8 (s:=s) (id:=id) (n:=n.toNat) (R:=⟨el,te.sz,List.replicate n.toNat (Qp2 te.zero)⟩) (hd:=hd') (w:=w.alloc (.cells (madeCells z.cells (m.toNat * te.sz)) el)) (S:=Qbg (fun b=>if b=w.heap.size then some id else χ b) (w.alloc (.cells (madeCells z.cells (m.toNat * te.sz)) el))) (U:=(· ∈ (s.add id ⟨el,te.sz,List.replicate n.toNat (Qp2 te.zero)⟩).us)) (b:=w.heap.size) (cap:=m.toNat) hus (by simp) (by omega)
      simpa only [List.length_replicate] using this)⟩)
    simp only [execOp,hxl,hxc,Sem.run_bind,hrun,Result.andThen_ok,Sem.run_pure]
  · rename_i t n ps
    split at he
    case h_2=>cases he
    rename_i sz_ by_ el ze hti
    split at he
    case h_2=>cases he
    rename_i te hte
    split at he
    case isFalse=>cases he
    rename_i hz
    split at he
    case isFalse=>cases he
    rename_i hb
    split at he
    case h_2=>cases he
    rename_i cs hcs
    split at he
    case isFalse=>cases he
    rename_i hok
    split at he
    case isFalse=>cases he
    rename_i hlen
    cases he
    obtain ⟨z0,z1,z2⟩:=Qvn hz
    obtain ⟨z,hzr,hzc⟩:=Qin (P:=E.P) (w:=w) (hΘ.get hte)
    have hsz:z.cells.size=te.sz:=by rw [← Array.length_toList,hzc,z1]
    have hflat:(madeCells z.cells (n * te.sz)).toList=(List.replicate n te.zero).flatten:=by
      apply List.ext_getElem?
      intro k
      by_cases hkk:k<n * te.sz
      · rw [Qq7 _ _ (by omega) _ hkk,hzc,z1]
        have : ∀ (n k:Nat),k<n * te.sz→(List.replicate n te.zero).flatten[k]? = te.zero[k % te.sz]?:=by
          intro n
          induction n with
          | zero=>intro k hk;simp at hk
          | succ n ih =>
            intro k hk
            rw [List.replicate_succ,List.flatten_cons]
            by_cases hkz:k<te.sz
            · rw [List.getElem?_append_left (by omega),Nat.mod_eq_of_lt hkz]
            · rw [List.getElem?_append_right (by omega),z1,ih _ (by rw [Nat.add_mul,Nat.one_mul] at hk;omega)]
              conv=>rhs;rw [show k=te.sz+(k - te.sz) by omega,Nat.add_mod_left]
        rw [this n k hkk]
      · rw [List.getElem?_eq_none (by rw [Array.length_toList,size_madeCells];omega),List.getElem?_eq_none (by simp [z1];omega)]
    obtain ⟨arr,hf,hr⟩:=Qmb (w:=w) (S:=Qbg χ w) (U:=(· ∈ s.us)) (hd:=hd') _ _ _ (madeCells z.cells (n * te.sz)) cs (Qn3 h ps) (by rw [hflat];exact Qjy _) hcs
    have hal:=Qb4 _ _ _ hr
    rw [Array.length_toList] at hal
    have hrel:=h.alloc hid (R:=⟨el,te.sz,Qkz te.sz n cs⟩) (cs:=arr) (n:=n) z0 (by simp [Qh3]) (by simp [maxLen];have:=Nat.le_mul_of_pos_right n z0;omega) (by show arr.size=n * te.sz;omega) (by
      have:arr.toList.take ((Qkz te.sz n cs).length * te.sz)=arr.toList:=List.take_of_length_le (by rw [Array.length_toList,Qh3];omega)
      rw [this]
      exact Qnw n cs _ hlen hr (Qn6 _ _ _ hr hok))
    refine Qei (v:=.slice (some ⟨w.heap.size,0,none⟩) n n) (w':=w.alloc (.cells arr el)) ?_ (hk _ _ ⟨_,_,hrel.putO hd (by
      have:=Xk8 (s:=s) (id:=id) (n:=n) (R:=⟨el,te.sz,Qkz te.sz n cs⟩) (hd:=hd') (w:=w.alloc (.cells arr el)) (S:=Qbg (fun b=>if b=w.heap.size then some id else χ b) (w.alloc (.cells arr el))) (U:=(· ∈ (s.add id ⟨el,te.sz,Qkz te.sz n cs⟩).us)) (b:=w.heap.size) (cap:=n) hus (by simp [Qh3]) (Nat.le_refl _)
      simpa only [Qh3] using this)⟩)
    have hu:=run_underlying (P:=E.P) (w:=w) (Qas (hΘ.get hti))
    have hmade:(Array.range (n * te.sz)).map (fun x=>z.cells[x % z.cells.size]!)=madeCells z.cells (n * te.sz):=rfl
    simp only [execOp,Instr.buildSlice,Sem.run_bind,hu,Result.andThen_ok,Qco (hΘ.get hte)]
    have hnb : ¬ (n * te.sz > 2 ^ 24):=by omega
    rw [if_neg hnb]
    by_cases hn0:n * te.sz=0
    · have hn1:n=0:=by
        rcases Nat.mul_eq_zero.1 hn0 with h | h
        · exact h
        · omega
      subst hn1
      simp only [Nat.zero_mul,if_true,Sem.run_bind,Sem.run_pure,Result.andThen_ok]
      have e0:madeCells z.cells (0 * te.sz)=(Array.range 0).map (fun x=>(#[] : Array Value)[x % (#[] : Array Value).size]!):=by simp [madeCells]
      rw [e0] at hf
      rw [hf]
      rfl
    · simp only [hn0,if_false,Sem.run_bind,hzr,Result.andThen_ok,Sem.run_pure,hmade,hf]
      rfl
  · cases he
end Go.T
set_option linter.unusedVariables false
namespace Go.T
open Go Go.RowKit
theorem Qci.congr {E:Env} {s s2:St} {a:Act} {w:World} {χ:Nat→Option Nat} {hd:Nat→Value} (h:Qci E s a w χ hd) (hg : ∀ t,s2.get t=s.get t) (hr : ∀ i,s2.root i=s.root i) (hu:s2.us=s.us) : Qci E s2 a w χ hd:=by
 have ht:tab s2 hd=tab s hd:=by funext i;simp [tab,hr]
 refine ⟨h.defers,h.size,h.os,h.tape,h.output,h.hsz,h.frame,by rw [hu];exact h.fx,by rw [hu];exact h.jj,by rw [hr];exact h.rj,h.jk,h.col,?_,?_⟩
 ·intro i R hR
  rw [hr] at hR
  rw [hu,ht]
  exact h.rts i R hR
 ·intro t
  rw [hu,ht,hg]
  exact h.slots t
theorem Qmo {w:World} {e sz m cap len:Nat} {A:Option Addr} {vs:List Value} (h:w.ownsRow 0 e sz (.slice A m cap) m vs) (hl:len≤m) : w.ownsRow 0 e sz (.slice A len cap) len (vs.take (len * sz)):=by
  refine ⟨?_,?_⟩
  · rw [List.length_take,h.1];exact Nat.min_eq_left (Nat.mul_le_mul_right _ hl)
  · rcases h.2 with ⟨hv,hm⟩ | ⟨g,cap',cur,hv,hb,hg,hnc,hcm,hcs,ht⟩
    · cases hv
      exact .inl ⟨by have:len=0:=by omega
                     subst this;rfl,by omega⟩
    · cases hv
      refine .inr ⟨g,cap,cur,rfl,hb,hg,by omega,hcm,hcs,?_⟩
      rw [← ht,List.take_take,Nat.min_eq_left (Nat.mul_le_mul_right _ hl)]
theorem Qre {P:Program} {w:World} {base t ty e size:Nat} {i:TypeInfo} (ht:P.underlying t=some (.slice e)) (hi:P.info? e=some i) {v:Value} {n c:Nat} {xs:List Value} (hown:w.ownsRow base e size v n xs) :
  (Builtin.append_ #[t,t] ty #[v,.slice none 0 c]).run P w = .ok v w:=by
 rcases hown.2 with ⟨rfl,rfl⟩ | ⟨g,cap,cur,rfl,_,_,hnc,_⟩
 ·simp [Builtin.append_,run_underlying ht,sizeOf,typeInfo,hi,Builtin.lenOf,Builtin.firstCells]
 ·simp [Builtin.append_,run_underlying ht,sizeOf,typeInfo,hi,Builtin.lenOf,Builtin.firstCells,hnc,storeCells]
theorem Qqf {w:World} {S U:Nat→Prop} {ρ:Tab} {sz:Nat} : ∀ (xs:List (List AV)) (vs:List Value) (f:List Nat),Qao w S U ρ sz xs vs f→(∀ x∈xs,x.all AV.plain=true)→f=[]
 | [],vs,f,h,_=>by simp only [Qao] at h;exact h.2
 | x :: xs,vs,f,h,hp=>by
  simp only [Qao] at h
  obtain ⟨u1,u2,f1,f2,rfl,rfl,hl,_,h1,h2⟩:=h
  rw [Qr6 _ _ _ h1 (hp x (by simp)),Qqf xs u2 f2 h2 (fun y hy=>hp y (by simp [hy]))]
  rfl
def Qpd (s:St) (sz:Nat) : AV→Option (List (List AV))
 | .sl id off len=>match s.root id with
  | some R=>if R.sz=sz then some ((R.xs.drop off).take len) else none
  | none=>none
 | .ro sz' xs=>if sz'=sz then some xs else none
 | _=>none
theorem Xcq {E:Env} {s:St} {a:Act} {w:World} {χ:Nat→Option Nat} {hd:Nat→Value} (h:Qci E s a w χ hd) {y:AV} {u:Value} (hy:repR w (Qbg χ w) (· ∈ s.us) (tab s hd) y u []) {sz:Nat} {ys:List (List AV)} (he:Qpd s sz y=some ys) (hp : ∀ x∈ys,x.all AV.plain=true) :
  ∃ A c news,u = .slice A ys.length c∧Qao w (Qbg χ w) (· ∈ s.us) (tab s hd) sz ys news []∧(ys=[]∧A=none∨∃ ad,A=some ad∧∀ j v,news[j]? = some v→w.cell? (ad.add j)=some v):=by
 unfold Qpd at he
 split at he
 ·rename_i id off len
  split at he
  case h_2=>cases he
  rename_i R hR
  split at he
  case isFalse=>cases he
  rename_i hsz
  subst hsz
  cases he
  simp only [repR] at hy
  obtain ⟨_,_,hy⟩:=hy
  obtain ⟨hle,⟨A,cap,rfl,hcap,h0,hA⟩,_⟩:=hy (hd id) R.xs.length R.sz (by simp [tab,hR])
  obtain ⟨_,fp,⟨hz,vs,fp',hown,hrep,rfl⟩,_,_⟩:=h.rts id R hR
  have e1:R.xs=R.xs.take off++((R.xs.drop off).take len++(R.xs.drop off).drop len):=by rw [List.take_append_drop,List.take_append_drop]
  have hrep':=hrep
  rw [e1] at hrep'
  obtain ⟨v1,v2,f1,f2,rfl,_,hl1,k1,k2⟩:=Qe6 _ _ _ _ hrep'
  obtain ⟨v3,v4,f3,f4,rfl,_,hl3,k3,k4⟩:=Qe6 _ _ _ _ k2
  have:=Qqf _ _ _ k3 hp
  subst this
  have hlen:((R.xs.drop off).take len).length=len:=by rw [List.length_take,List.length_drop];omega
  refine ⟨A,cap,v3,by rw [hlen],k3,?_⟩
  by_cases hl0:len=0
  ·subst hl0
   rw [List.take_zero] at k3
   simp only [Qao] at k3
   obtain ⟨rfl,_⟩:=k3
   cases A with
   | none=>left;simp
   | some ad=>right;exact ⟨ad,rfl,fun j v hj=>by simp at hj⟩
  ·obtain ⟨b,m,c,hh,rfl⟩:=hA (by omega)
   right
   refine ⟨_,rfl,?_⟩
   intro j v hj
   have hat:=Qhe hown (b:=b) (by rw [hh];rfl)
   have hjl:j<v3.length:=(List.getElem?_eq_some_iff.1 hj).1
   rw [List.length_take,Nat.min_eq_left (by omega)] at hl1
   have:=hat (off * R.sz+j) v (by rw [List.getElem?_append_right (by omega),show off * R.sz+j - v1.length=j by omega,List.getElem?_append_left hjl];exact hj)
   rw [Qku]
   simpa using this
 ·rename_i sz' xs
  split at he
  case isFalse=>cases he
  rename_i hsz
  subst hsz
  cases he
  simp only [repR,rep] at hy
  obtain ⟨_,A,cap,rfl,hcap,hx⟩:=hy
  rcases hx with rfl | ⟨b,o,vs,rfl,hS,hat,hr⟩
  ·refine ⟨A,cap,[],rfl,by simp [Qao],?_⟩
   cases A with
   | none=>left;simp
   | some ad=>right;exact ⟨ad,rfl,fun j v hj=>by simp at hj⟩
  ·exact ⟨_,cap,vs,rfl,Qi1 _ _ _ hr,.inr ⟨_,rfl,fun j v hj=>by rw [Qku];exact hat j v hj⟩⟩
 ·cases he
def Qpc (s:St) (el sz:Nat) : AV→Option (List (List AV)×Option Nat)
 | .sl id 0 len=>match s.root id with
  | some R=>if R.T=el then (if R.sz=sz then some (R.xs.take len,some id) else none) else none
  | none=>none
 | .lit (.slice none 0 0)=>some ([],none)
 | _=>none
def St.killO (s:St) : Option Nat→St
 | some i=>s.kill i
 | none=>s
theorem Xa5 {E:Env} {Θ:Tys} (hΘ:TOK E.P Θ) {o:Oper} {s:St} (id:Nat) (hid:id ∉ s.us) (hd:okD E.n o.dst=true) {x y:Operand} {t:Nat} (ho:o.op = .call ⟨.builtin .append, #[x,y], #[t,t]⟩)
  {sz by_ el:Nat} {ze:List Value} (hti:Θ.lookup t=some ⟨sz,by_,.slice el,ze⟩) {te:TI} (hte:Θ.lookup el=some te) (hz:zOK te=true) {xs ys:List (List AV)} {k:Option Nat} (hx:Qpc s el te.sz (Qal s x)=some (xs,k)) (hy:Qpd s te.sz (Qal s y)=some ys)
  (hp : ∀ r∈ys,r.all AV.plain=true) (hb:(xs.length+ys.length) * te.bytes≤140737488355328) (hm:xs.length+ys.length≤140737488355328) :
  Qm5 E o s (((s.killO k).add id ⟨el,te.sz,xs++ys⟩).putO o.dst (.sl id 0 (xs.length+ys.length))):=by
 rintro a w ⟨χ,hd',h⟩ K Q hk
 obtain ⟨dst,op,type,pos,after,guard⟩:=o
 simp only at ho hd hk
 subst ho
 obtain ⟨z0,z1,z2⟩:=Qvn hz
 obtain ⟨i,z,hi,his,hib,hiz,hzc⟩:=Qo0 (hΘ.get hte)
 have hun:=Qas (hΘ.get hti)
 have hsz:z.cells.size=te.sz:=by rw [← Array.length_toList,hzc,z1]
 obtain ⟨A,c,news,hyv,hyr,hya⟩:=Xcq h (Qak h y) hy hp
 have hnl:=Qnv _ _ _ hyr
 have hn1:=Qmt _ _ _ hyr
 -- what the first operand is
 have hdst : ∃ v vs fn,a.eval x=v∧w.ownsRow 0 el te.sz v xs.length vs∧Qao w (Qbg χ w) (· ∈ s.us) (tab s hd') te.sz xs vs fn∧(∀ b∈fn,∃ j,k=some j∧χ b=some j)∧fn.Nodup∧(∀ b∈fn,v.ownBlock≠some b)∧(∀ b,v.ownBlock=some b→∃ j,k=some j∧χ b=some j):=by
  unfold Qpc at hx
  split at hx
  ·rename_i ri len hox
   split at hx
   case h_2=>cases hx
   rename_i R hR
   split at hx
   case isFalse=>cases hx
   rename_i hT
   split at hx
   case isFalse=>cases hx
   rename_i hS
   cases hx
   subst hT
   have hxr:=Qak h x
   rw [hox] at hxr
   simp only [repR] at hxr
   obtain ⟨_,_,hxr⟩:=hxr
   obtain ⟨hle,⟨A0,cap,hxv,hcap,h0,_⟩,_⟩:=hxr (hd' ri) R.xs.length R.sz (by simp [tab,hR])
   obtain ⟨_,fp,⟨hz,vs,fp',hown,hrep,rfl⟩,hnd,hcol⟩:=h.rts ri R hR
   obtain ⟨m,hm0⟩:=h0 rfl
   have hmx:m=R.xs.length:=by
    obtain ⟨A1,cap1,he1,_⟩:=Qm8 hown
    rw [hm0] at he1;cases he1;rfl
   subst hmx
   have hrep':=hrep
   rw [← List.take_append_drop len R.xs] at hrep'
   obtain ⟨v1,v2,f1,f2,rfl,rfl,hl1,k1,k2⟩:=Qe6 _ _ _ _ hrep'
   have hlx:(R.xs.take len).length=len:=by rw [List.length_take];omega
   rw [hlx] at hl1
   have hp:=Qmo (w:=w) (len:=len) (by rw [hm0] at hown;exact hown) (by omega)
   have ev:(v1++v2).take (len * R.sz)=v1:=by rw [← hl1];exact List.take_left
   rw [ev] at hp
   have hob:(Value.slice A0 len cap).ownBlock=(hd' ri).ownBlock:=by rw [hm0];cases A0 <;> rfl
   refine ⟨_,v1,f1,hxv,by rw [hlx,← hS];exact hp,by rw [← hS];exact k1,?_,?_,?_,?_⟩
   ·intro b hb
    exact ⟨ri,rfl,hcol b (by simp [hb])⟩
   ·have:((hd' ri).ownBlock.toList++(f1++f2)).Nodup:=hnd
    rw [List.nodup_append] at this
    have h2:=this.2.1
    rw [List.nodup_append] at h2
    exact h2.1
   ·intro b hb he
    rw [hob] at he
    rw [List.nodup_append] at hnd
    exact hnd.2.2 b (by simp [he]) b (by simp [hb]) rfl
   ·intro b he
    rw [hob] at he
    exact ⟨ri,rfl,hcol b (by simp [he])⟩
  ·rename_i hox
   cases hx
   have:=Qgh (hox ▸ Qak h x)
   exact ⟨_,[],[],this,World.ownsRow_nil w 0 el te.sz,by simp [Qao],by simp,by simp,by simp,by simp [Value.ownBlock]⟩
  ·cases hx
 obtain ⟨v,vs,fn,hxv,hown,hrep,hf1,hf2,hf3,hf4⟩:=hdst
 have hrun : ∃ v' w',(Builtin.append_ #[t,t] type #[v,.slice A ys.length c]).run E.P w = .ok v' w'∧w'.ownsRow 0 el te.sz v' (xs.length+ys.length) (vs++news)∧w.grownBy w' v.ownBlock∧(v'.ownBlock=v.ownBlock∨v'.ownBlock=some w.heap.size):=by
  rcases hya with ⟨rfl,rfl⟩ | ⟨ad,rfl,hcells⟩
  ·have:news=[]:=List.eq_nil_of_length_eq_zero (by simpa using hnl)
   subst this
   exact ⟨v,w,Qre hun hi hown,by simpa using hown,⟨rfl,rfl,rfl,Nat.le_refl _,fun _ _ _=>rfl⟩,.inl rfl⟩
  ·obtain ⟨v',w',h1,h2,h3,_,h5⟩:=run_append_own_at (P:=E.P) w 0 t type el i z te.sz te.bytes hun hi hiz his hib hsz z0 v xs.length vs hown ad ys.length c news hnl hcells hn1 (by simp [maxLen];omega) hb (Nat.zero_le _)
   exact ⟨v',w',h1,h2,h3,h5⟩
 obtain ⟨v',w',hr,hown',hg,hv'⟩:=hrun
 -- the root that goes
 have hkk : ∃ ki:Nat,(∀ b,v.ownBlock=some b→χ b=some ki)∧(∀ b∈fn,χ b=some ki)∧(k=some ki∨k=none∧ki=id):=by
  cases k with
  | none=>exact ⟨id,fun b hb=>(by obtain ⟨_,h,_⟩:=hf4 b hb;cases h),fun b hb=>(by obtain ⟨_,h,_⟩:=hf1 b hb;cases h),.inr ⟨rfl,rfl⟩⟩
  | some j=>exact ⟨j,fun b hb=>(by obtain ⟨_,h,h2⟩:=hf4 b hb;cases h;exact h2),fun b hb=>(by obtain ⟨_,h,h2⟩:=hf1 b hb;cases h;exact h2),.inl rfl⟩
 obtain ⟨ki,hk1,hk2,hk3⟩:=hkk
 have hrow:Qao w (Qbg χ w) (· ∈ s.us) (tab s hd') te.sz (xs++ys) (vs++news) fn:=by
  have:=Qkn _ _ _ _ _ _ hrep hyr
  rwa [List.append_nil] at this
 have hkJ:ki≠JJ:=by
  rcases hk3 with rfl | ⟨_,rfl⟩
  ·intro e
   subst e
   unfold Qpc at hx
   split at hx
   ·split at hx
    ·rename_i hR
     split at hx
     ·split at hx
      ·cases hx;rw [h.rj] at hR;cases hR
      ·cases hx
     ·cases hx
    ·cases hx
   ·cases hx
   ·cases hx
  ·exact fun e=>hid (e ▸ h.jj)
 obtain ⟨χ',hrel⟩:=h.newRow (i:=ki) hid hg (Qd6 _ hr) (fun b hb=>hk1 b hb) hkJ (R:=⟨el,te.sz,xs++ys⟩) z0 (by rw [List.length_append];exact hown') hrow hk2 hf2 (fun b hb=>hf3 b hb) hv'
 have hrel2:Qci E ((s.killO k).add id ⟨el,te.sz,xs++ys⟩) a w' χ' (fun k=>if k=id then v' else hd' k):=by
  rcases hk3 with rfl | ⟨rfl,rfl⟩
  ·exact hrel
  ·refine hrel.congr (fun _=>rfl) ?_ rfl
   intro j
   by_cases hj:j=ki
   ·subst hj;simp [St.killO,St.root_add_same]
   ·simp [St.killO,St.root_add_ne _ hj,St.root_kill_ne s hj]
 refine Qei (v:=v') (w':=w') ?_ (hk _ _ ⟨χ',_,hrel2.putO hd ?_⟩)
 ·simp only [execOp,resolve,invoke,builtin,Sem.run_bind,Sem.run_pure,Result.andThen_ok,List.map_toArray,List.map_cons,List.map_nil,hxv,hyv,hr]
 ·simp only [repR]
  refine ⟨trivial,List.mem_cons_self,?_⟩
  intro h' n' sz' hh
  simp [tab,St.root_add_same] at hh
  obtain ⟨rfl,rfl,rfl⟩:=hh
  exact ⟨by simp,Qjz hown',Qj2 hown'⟩
def wr (x:List AV) (o:Nat) (cs:List AV) : List AV:=x.take o++cs++x.drop (o+cs.length)
theorem Xke {x:List AV} {o:Nat} {cs:List AV} {k:Nat} {c:AV} (hk:cs[k]? = some c) (hl:o+cs.length≤x.length) : (wr x o (cs.take k)).set (o+k) c=wr x o (cs.take (k+1)):=by
 have hkl:k<cs.length:=(List.getElem?_eq_some_iff.1 hk).1
 have hkv:=(List.getElem?_eq_some_iff.1 hk).2
 unfold wr
 have e1:(x.take o++cs.take k).length=o+k:=by simp;omega
 rw [List.set_append_right _ _ (by omega),e1,Nat.sub_self]
 have h2:x.drop (o+(cs.take k).length)=x[o+k]'(by omega) :: x.drop (o+(cs.take (k+1)).length):=by
  rw [List.length_take,List.length_take,Nat.min_eq_left (by omega),Nat.min_eq_left (by omega),← Nat.add_assoc,List.getElem_cons_drop]
 rw [h2,List.set_cons_zero,List.take_succ_eq_append_getElem hkl,hkv]
 simp
theorem Qyw {E:Env} {s:St} {a:Act} {x:List AV} {i e o:Nat} {R:Qae} {y:Operand} (hR:s.root i=some R) (he:R.xs[e]? = some x) (hl:o+(cellsOf (Qal s y)).length≤x.length) (hok:(cellsOf (Qal s y)).all (Qeh s)=true) :
  ∀ (n k:Nat),k+n=(cellsOf (Qal s y)).length→∀ (w:World) (χ:Nat→Option Nat) (hd:Nat→Value) (b m c:Nat),hd i = .slice (some ⟨b,0,none⟩) m c →
   Qci E (s.setR i ⟨R.T,R.sz,R.xs.set e (wr x o ((cellsOf (Qal s y)).take k))⟩) a w χ hd →
   ∃ w' χ',(storeCells ⟨b,e * R.sz+o,none⟩ ((a.eval y).cells.toList.drop k) k).run E.P w = .ok () w'∧Qci E (s.setR i ⟨R.T,R.sz,R.xs.set e (wr x o (cellsOf (Qal s y)))⟩) a w' χ' hd:=by
 have helt:e<R.xs.length:=(List.getElem?_eq_some_iff.1 he).1
 have hso : ∀ (x':List AV) ,∀ j,((s.setR i ⟨R.T,R.sz,R.xs.set e x'⟩).root j).isSome=(s.root j).isSome:=by
  intro x' j
  by_cases hj:j=i
  ·subst hj;simp [St.root_setR_same,hR]
  ·simp [St.root_setR_ne s hj]
 have hokk : ∀ x':List AV,(cellsOf (Qal s y)).all (Qeh (s.setR i ⟨R.T,R.sz,R.xs.set e x'⟩))=true:=by
  intro x'
  rw [← hok]
  congr 1
  funext c
  cases c <;> simp [Qeh,hso]
 intro n
 induction n with
 | zero =>
  intro k hk w χ hd b m c hh h
  have hv:=Qiy (Qak h y) (hokk _)
  have hlv:=Qb4 _ _ _ hv
  have e1:(cellsOf (Qal s y)).take k=cellsOf (Qal s y):=List.take_of_length_le (by omega)
  rw [e1] at h
  refine ⟨w,χ,?_,h⟩
  rw [List.drop_of_length_le (by rw [hlv];show (cellsOf (Qal s y)).length≤k;omega)]
  rfl
 | succ n ih =>
  intro k hk w χ hd b m c hh h
  have hv:Qah w _ _ _ (cellsOf (Qal s y)) (a.eval y).cells.toList []:=Qiy (Qak h y) (hokk _)
  have hlv:=Qb4 _ _ _ hv
  have hklt:k<(cellsOf (Qal s y)).length:=by omega
  obtain ⟨u,hu,hur⟩:=Qob _ _ k _ hv (List.getElem?_eq_getElem hklt)
  have hu1:u.oneCell'=true:=Qpo hur (List.all_eq_true.1 (hokk _) _ (List.getElem_mem _))
  have hwl:(wr x o ((cellsOf (Qal s y)).take k)).length=x.length:=by simp [wr];omega
  obtain ⟨b',m',c',hh',⟨v0,hcell⟩,hfro,χ',hrel⟩:=h.store (i:=i) (e:=e) (o:=o+k) (x:=wr x o ((cellsOf (Qal s y)).take k)) (R:=⟨R.T,R.sz,R.xs.set e (wr x o ((cellsOf (Qal s y)).take k))⟩) (St.root_setR_same _ _ _) (by simp [helt]) (by omega) hur hu1
  rw [hh] at hh'
  cases hh'
  have hdrop:(a.eval y).cells.toList.drop k=u :: (a.eval y).cells.toList.drop (k+1):=by
   have hkl:k<(a.eval y).cells.toList.length:=by omega
   rw [← List.getElem_cons_drop hkl]
   rw [List.getElem?_eq_getElem hkl] at hu
   cases hu;rfl
  have hst:(store ((⟨b,e * R.sz+o,none⟩ : Addr).add k) u).run E.P w = .ok () (w.setCell ⟨b,e * R.sz+(o+k),none⟩ u):=by
   rw [Qku,Nat.add_assoc,run_store _ _ _ _ _ hu1]
   simp only [] at hcell hfro
   rw [hcell]
   simp [hfro]
  have hrel2:Qci E (s.setR i ⟨R.T,R.sz,R.xs.set e (wr x o ((cellsOf (Qal s y)).take (k+1)))⟩) a (w.setCell ⟨b,e * R.sz+(o+k),none⟩ u) χ' hd:=by
   refine hrel.congr (fun _=>rfl) ?_ rfl
   intro j
   by_cases hj:j=i
   ·subst hj
    rw [St.root_setR_same,St.root_setR_same,List.set_set,Xke (List.getElem?_eq_getElem hklt) hl]
   ·rw [St.root_setR_ne _ hj,St.root_setR_ne _ hj,St.root_setR_ne _ hj]
  obtain ⟨w',χ2,hrun,hfin⟩:=ih (k+1) (by omega) _ χ' hd b m c hh hrel2
  refine ⟨w',χ2,?_,hfin⟩
  rw [hdrop]
  simp only [storeCells,Sem.run_bind,hst,Result.andThen_ok,hrun]
theorem Qm9 {E:Env} {Θ:Tys} (hΘ:TOK E.P Θ) {o:Oper} {s:St} {t:Nat} {p y:Operand} (ho:o.op = .store t p y) (hdst:o.dst=none) {ti:TI} (hti:Θ.lookup t=some ti) {i e oo:Nat} (hpt:Qal s p = .ptr i e oo) {R:Qae} (hR:s.root i=some R) {x:List AV} (he:R.xs[e]? = some x)
  (hn:(cellsOf (Qal s y)).length=ti.sz) (hl:oo+(cellsOf (Qal s y)).length≤x.length) (hok:(cellsOf (Qal s y)).all (Qeh s)=true) :
  Qm5 E o s (s.setR i ⟨R.T,R.sz,R.xs.set e (wr x oo (cellsOf (Qal s y)))⟩):=by
 rintro a w ⟨χ,hd,h⟩ K Q hk
 obtain ⟨dst,op,type,pos,after,guard⟩:=o
 simp only at ho hdst
 subst ho;subst hdst
 have hpr:=Qak h p
 rw [hpt] at hpr
 simp only [repR] at hpr
 obtain ⟨_,_,hpr⟩:=hpr
 obtain ⟨hlt,b,m,c,hh,hpv⟩:=hpr (hd i) R.xs.length R.sz (by simp [tab,hR])
 have h0:Qci E (s.setR i ⟨R.T,R.sz,R.xs.set e (wr x oo ((cellsOf (Qal s y)).take 0))⟩) a w χ hd:=by
  refine h.congr (fun _=>rfl) ?_ rfl
  intro j
  by_cases hj:j=i
  ·subst hj
   rw [St.root_setR_same,hR]
   congr 1
   have:wr x oo ((cellsOf (Qal s y)).take 0)=x:=by simp [wr]
   obtain ⟨hlt',heq⟩:=List.getElem?_eq_some_iff.1 he
   rw [this,← heq,List.set_getElem_self]
  ·rw [St.root_setR_ne _ hj]
 obtain ⟨w',χ',hrun,hrel⟩:=Qyw hR he hl hok (cellsOf (Qal s y)).length 0 (by omega) w χ hd b m c hh h0
 have hv:=Qiy (Qak h y) hok
 have hlv:=Qb4 _ _ _ hv
 have hcs:(a.eval y).cells.size=ti.sz:=by rw [← Array.length_toList,hlv,hn]
 unfold Oper.wp
 have:(execOp a.eval ⟨none,.store t p y,type,pos,after,guard⟩).run E.P w = .ok .skip w':=by
  simp only [execOp,Instr.storeAt,hpv,Instr.sureAddr,Sem.run_bind,Sem.run_pure,Result.andThen_ok,storeVar,Qco (hΘ.get hti)]
  rw [if_neg (by simp [hcs])]
  rw [List.drop_zero] at hrun
  rw [hrun]
  rfl
 rw [this]
 exact hk _ _ ⟨χ',hd,hrel⟩
end Go.T
