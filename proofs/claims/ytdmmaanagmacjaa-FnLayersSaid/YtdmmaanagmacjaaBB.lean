/- Lemmas for FnLayers; no condition. -/

import Derived.Test.YtdmmaanagmacjaaTZB
import Derived.Laws.BytesArg
import Derived.Test.YtdmmaanagmacjaaTW
set_option linter.unusedVariables false
namespace Go.T
open Go Go.RowKit Go.Proofs
def Qjb:AV→Bool
 | .lit v=>v.oneCell'
 | .ro _ _=>true
 | .rop _ _=>true
 | _=>false
theorem Xbc {s:St} {c:AV} (h:Qjb c=true) : Qeh s c=true:=by cases c <;> simp_all [Qjb,Qeh]
theorem Xeb {s:St} {cs:List AV} (h:cs.all Qjb=true) : cs.all (Qeh s)=true:=by
 rw [List.all_eq_true] at h ⊢
 exact fun c hc=>Xbc (h c hc)
def Xkr (s:St) (h:H) (cs:List AV) : Option (List Prop):=
 match h with
 | .nw _ _=>some [cs.all Qjb=true,0<cs.length]
 | _=>if cs.all (Qeh s) then (if 0<cs.length then some [] else none) else none
def Xdh (Θ:Tys) (t:Nat) (h:H) (n:Nat) : Nat×List Prop:=
 match h with
 | .nw _ _=>match Θ.lookup t with
  | some te=>(te.sz,[n=te.sz])
  | none=>(n,[])
 | _=>(n,[])
theorem Xfz {Θ:Tys} {t:Nat} {h:H} {n:Nat} (hp:Qb0 (Xdh Θ t h n).2) : (Xdh Θ t h n).1=n:=by
 unfold Xdh at hp ⊢
 split
 ·split
  ·rename_i h1;simp only [h1] at hp;exact hp.1.symm
  ·rfl
 ·rfl
def Xko (Θ:Tys) (s:St) (op:Op) (h:H) (id:Nat) : Option (Qae×AV×List Prop):=
  match op with
  | .box t x=>match Xkr s h (cellsOf (Qal s x)) with
    | some ps=>some (⟨t,(Xdh Θ t h (cellsOf (Qal s x)).length).1,[cellsOf (Qal s x)]⟩,.ptr id 0 0,(Xdh Θ t h (cellsOf (Qal s x)).length).2++ps)
    | none=>none
  | .makeSlice t l c=>match Θ.lookup t,Qal s l,Qal s c with
    | some ⟨_,_,.slice el,_⟩,.lit (.int _ n),.lit (.int _ m)=>match Θ.lookup el with
      | some te=>if zOK te then some (⟨el,te.sz,List.replicate n.toNat (Qp2 te.zero)⟩,.sl id 0 n.toNat,match h with
        | .nwc _=>[n≤m,0≤n,m * te.bytes≤140737488355328,m≤140737488355328]
        | _=>[n=m,0≤n,n * te.bytes≤140737488355328,n≤140737488355328]) else none
      | none=>none
    | _,_,_=>none
  | op=>(Qsn Θ s op id).map fun p=>(p.1,p.2,[])
theorem Qtk {Θ:Tys} {s:St} {op:Op} {h:H} {id:Nat} {R:Qae} {r:AV} {ps:List Prop} (he:Xko Θ s op h id=some (R,r,ps)) (hp:Qb0 ps) : Qsn Θ s op id=some (R,r):=by
 unfold Xko at he
 split at he
 ·split at he
  case h_2=>cases he
  rename_i qs hq
  cases he
  rw [Xfz (Qaq hp).1]
  replace hp:=(Qaq hp).2
  unfold Xkr at hq
  simp only [Qsn]
  split at hq
  ·cases hq
   obtain ⟨h1,h2,_⟩:=hp
   rw [if_pos (Xeb h1),if_pos h2]
  ·split at hq
   case isFalse=>cases hq
   rename_i h1
   split at hq
   case isFalse=>cases hq
   rename_i h2
   rw [if_pos h1,if_pos h2]
 ·split at he
  case h_2=>cases he
  rename_i hti hn hm
  split at he
  case h_2=>cases he
  rename_i te hte
  split at he
  case isFalse=>cases he
  rename_i hz
  cases he
  split at hp
  ·obtain ⟨h1,h2,h3,h4,_⟩:=hp
   simp only [Qsn,hti,hn,hm,hte]
   rw [if_pos hz,if_pos h1,if_pos h2,if_pos h3,if_pos h4]
  ·obtain ⟨h1,h2,h3,h4,_⟩:=hp
   subst h1
   simp only [Qsn,hti,hn,hm,hte]
   rw [if_pos hz,if_pos (Int.le_refl _),if_pos h2,if_pos h3,if_pos h4]
 ·rw [Option.map_eq_some_iff] at he
  obtain ⟨z,he,e⟩:=he
  cases e
  exact he
def Frz (a b:List (List AV)) : Prop:=Qa1 a=true∧Qnk a=b
mutual
def Xbm (s:St) (π:List (Nat×Nat)) : AV→List (List (List AV))→Option (AV×List Prop×List (List (List AV)))
 | .lit v,z=>some (.lit v,[],z)
 | .ro sz xs,z=>some (.ro sz xs,[],z)
 | .rop cs o,z=>some (.rop cs o,[],z)
 | .sl i off len,z=>match π.lookup i with
  | some j=>some (.sl j off len,[],z)
  | none=>match z with
   | zs :: z=>match s.root i with
    | some R=>some (.ro R.sz zs,[Frz ((R.xs.drop off).take len) zs],z)
    | none=>none
   | []=>none
 | .ptr i e o,z=>match π.lookup i with
  | some j=>some (.ptr j e o,[],z)
  | none=>match z with
   | [] :: z=>match s.root i with
    | some R=>match R.xs[e]? with
     | some x=>if Qeq x then some (.rop (Qnh x) o,[],z) else none
     | none=>none
    | none=>none
   | [x,x'] :: z=>match s.root i with
    | some R=>some (.rop x' o,[R.xs[e]? = some x,Qeq x=true,Qnh x=x'],z)
    | none=>none
   | _=>none
 | .agg cs,z=>match z with
  | [] :: z=>match Qke s π cs z with
   | some (ds,ps,z')=>some (.agg ds,ps,z')
   | none=>none
  | _ :: z=>some (.agg cs,[cs.all Qjb=true],z)
  | []=>none
 | .fn g cs,z=>match Qke s π cs z with
  | some (ds,ps,z')=>some (.fn g ds,ps,z')
  | none=>none
 | _,_=>none
def Qke (s:St) (π:List (Nat×Nat)) : List AV→List (List (List AV))→Option (List AV×List Prop×List (List (List AV)))
 | [],z=>some ([],[],z)
 | c :: cs,z=>match Xbm s π c z with
  | some (d,ps,z')=>match Qke s π cs z' with
   | some (ds,qs,z'')=>some (d :: ds,ps++qs,z'')
   | none=>none
  | none=>none
end
theorem Qtb {s:St} {π:List (Nat×Nat)} : ∀ {cs:List AV},cs.all Qjb=true→Qii s π cs=some cs
 | [],_=>by simp [Qii]
 | c :: cs,h=>by
  rw [List.all_cons,Bool.and_eq_true] at h
  have h1:Qid s π c=some c:=by
   have:=h.1
   cases c <;> simp_all [Qjb,Qid]
  simp only [Qii,h1,Qtb h.2]
mutual
theorem Xb4 {s:St} {π:List (Nat×Nat)} : ∀ (x:AV) (z z':List (List (List AV))) (y:AV) (ps:List Prop),Xbm s π x z=some (y,ps,z')→Qb0 ps→Qid s π x=some y
 | .lit v,z,z',y,ps,h,_=>by simp only [Xbm] at h;cases h;simp [Qid]
 | .ro sz xs,z,z',y,ps,h,_=>by simp only [Xbm] at h;cases h;simp [Qid]
 | .rop cs o,z,z',y,ps,h,_=>by simp only [Xbm] at h;cases h;simp [Qid]
 | .sl i off len,z,z',y,ps,h,hp=>by
  simp only [Xbm] at h
  simp only [Qid]
  split at h
  ·rename_i j hj;cases h;rw [hj]
  ·rename_i hj
   rw [hj]
   split at h
   case h_2=>cases h
   split at h
   case h_2=>cases h
   rename_i R hR
   cases h
   obtain ⟨⟨h1,h2⟩,_⟩:=hp
   simp only [hR]
   rw [if_pos h1,h2]
 | .ptr i e o,z,z',y,ps,h,hp=>by
  simp only [Xbm] at h
  simp only [Qid]
  split at h
  ·rename_i j hj;cases h;rw [hj]
  ·rename_i hj
   rw [hj]
   split at h
   ·split at h
    case h_2=>cases h
    rename_i R hR
    split at h
    case h_2=>cases h
    rename_i x hx
    split at h
    case isFalse=>cases h
    rename_i ht
    cases h
    simp only [hR,hx]
    rw [if_pos ht]
   ·split at h
    case h_2=>cases h
    rename_i R hR
    cases h
    obtain ⟨h1,h2,h3,_⟩:=hp
    simp only [hR,h1]
    rw [if_pos h2,h3]
   ·cases h
 | .agg cs,z,z',y,ps,h,hp=>by
  simp only [Xbm] at h
  split at h
  ·split at h
   case h_2=>cases h
   rename_i ds qs z2 he
   cases h
   simp only [Qid,Qfz cs _ _ ds ps he hp]
  ·cases h
   simp only [Qid,Qtb hp.1]
  ·cases h
 | .fn g cs,z,z',y,ps,h,hp=>by
  simp only [Xbm] at h
  split at h
  case h_2=>cases h
  rename_i ds qs z2 he
  cases h
  simp only [Qid,Qfz cs z _ ds ps he hp]
 | .dead,z,z',y,ps,h,_=>by simp [Xbm] at h
 | .own _ _ _,z,z',y,ps,h,_=>by simp [Xbm] at h
 | .tup _,z,z',y,ps,h,_=>by simp [Xbm] at h
theorem Qfz {s:St} {π:List (Nat×Nat)} : ∀ (xs:List AV) (z z':List (List (List AV))) (ys:List AV) (ps:List Prop),Qke s π xs z=some (ys,ps,z')→Qb0 ps→Qii s π xs=some ys
 | [],z,z',ys,ps,h,_=>by simp only [Qke] at h;cases h;simp [Qii]
 | c :: cs,z,z',ys,ps,h,hp=>by
  simp only [Qke] at h
  split at h
  case h_2=>cases h
  rename_i d qs z2 he
  split at h
  case h_2=>cases h
  rename_i ds rs z3 hf
  cases h
  obtain ⟨h1,h2⟩:=Qaq hp
  simp only [Qii,Xb4 c z _ d qs he h1,Qfz cs _ _ ds rs hf h2]
end
mutual
theorem Xft {s:St} : ∀ x:AV,Qid s [] x=out s x
 | .lit _=>by simp [Qid,out]
 | .ro _ _=>by simp [Qid,out]
 | .rop _ _=>by simp [Qid,out]
 | .sl i _ _=>by simp only [Qid,out,List.lookup];cases s.root i <;> rfl
 | .ptr i e _=>by
  simp only [Qid,out,List.lookup]
  cases s.root i with
  | none=>rfl
  | some R=>simp only [];cases R.xs[e]? <;> rfl
 | .agg cs=>by simp only [Qid,out,Qow cs];cases Qvs s cs <;> rfl
 | .fn _ cs=>by simp only [Qid,out,Qow cs];cases Qvs s cs <;> rfl
 | .dead=>by simp [Qid,out]
 | .own _ _ _=>by simp [Qid,out]
 | .tup _=>by simp [Qid,out]
theorem Qow {s:St} : ∀ xs:List AV,Qii s [] xs=Qvs s xs
 | []=>by simp [Qii,Qvs]
 | c :: cs=>by simp only [Qii,Qvs,Xft c,Qow cs];cases out s c <;> cases Qvs s cs <;> rfl
end
theorem Qm7 {s:St} {xs:List AV} {z z':List (List (List AV))} {ys:List AV} {ps:List Prop} (h:Qke s [] xs z=some (ys,ps,z')) (hp:Qb0 ps) : Qvs s xs=some ys:=by
 rw [← Qow];exact Qfz _ _ _ _ _ h hp
mutual
def Qa8:AV→Bool
 | .lit _=>true
 | .agg cs=>Qsy cs
 | .tup cs=>Qsy cs
 | _=>false
def Qsy:List AV→Bool
 | []=>true
 | c :: cs=>Qa8 c && Qsy cs
end
mutual
theorem Qun : ∀ (x:AV) (ids:List Nat),Qa8 x=true→rtf x ids=(x,[],ids)
 | .lit _,ids,_=>by simp [rtf]
 | .agg cs,ids,h=>by simp only [Qa8] at h;simp only [rtf,Qrk cs ids h]
 | .tup cs,ids,h=>by simp only [Qa8] at h;simp only [rtf,Qrk cs ids h]
 | .dead,_,h=>by simp [Qa8] at h
 | .ro _ _,_,h=>by simp [Qa8] at h
 | .own _ _ _,_,h=>by simp [Qa8] at h
 | .sl _ _ _,_,h=>by simp [Qa8] at h
 | .ptr _ _ _,_,h=>by simp [Qa8] at h
 | .rop _ _,_,h=>by simp [Qa8] at h
 | .fn _ _,_,h=>by simp [Qa8] at h
theorem Qrk : ∀ (xs:List AV) (ids:List Nat),Qsy xs=true→Qn0 xs ids=(xs,[],ids)
 | [],ids,_=>by simp [Qn0]
 | c :: cs,ids,h=>by
  simp only [Qsy,Bool.and_eq_true] at h
  simp [Qn0,Qun c ids h.1,Qrk cs ids h.2]
end
mutual
theorem Qs3 : ∀ (x:AV),Qa8 x=true→Qez x=true
 | .lit _,_=>rfl
 | .agg cs,h=>by simp only [Qa8] at h;simp only [Qez,Qpe cs h]
 | .tup cs,h=>by simp only [Qa8] at h;simp only [Qez,Qpe cs h]
 | .dead,h=>by simp [Qa8] at h
 | .ro _ _,h=>by simp [Qa8] at h
 | .own _ _ _,h=>by simp [Qa8] at h
 | .sl _ _ _,h=>by simp [Qa8] at h
 | .ptr _ _ _,h=>by simp [Qa8] at h
 | .rop _ _,h=>by simp [Qa8] at h
 | .fn _ _,h=>by simp [Qa8] at h
theorem Qpe : ∀ (xs:List AV),Qsy xs=true→Qcw xs=true
 | [],_=>rfl
 | c :: cs,h=>by
  simp only [Qsy,Bool.and_eq_true] at h
  simp only [Qcw,Qs3 c h.1,Qpe cs h.2,Bool.and_self]
end
def Xl0:List Qae→Prop
 | []=>True
 | R :: rs=>(Qa1 R.xs=true∧Qa4 R.xs=true)∧Xl0 rs
theorem Qv5 : ∀ {rs:List Qae},Xl0 rs→∀ R∈rs,Qa1 R.xs=true∧Qa4 R.xs=true
 | [],_,R,h=>by cases h
 | X :: rs,h,R,hR=>by
  rcases List.mem_cons.1 hR with e | e
  ·subst e;exact h.1
  ·exact Qv5 h.2 R e
def ovr (r:AV) : Option AV→AV×List Prop
 | none=>(r,[])
 | some v=>(v,[r=v])
theorem Qfe {r:AV} {o:Option AV} (h:Qb0 (ovr r o).2) : (ovr r o).1=r:=by
 cases o with
 | none=>rfl
 | some v=>exact h.1.symm
def frB (us ids:List Nat) : Bool:=ndB ids && ids.all fun i => !us.contains i
theorem Qf4 {us ids:List Nat} (h:frB us ids=true) : ids.Nodup∧∀ i∈ids,i ∉ us:=by
 simp only [frB,Bool.and_eq_true,List.all_eq_true,Bool.not_eq_true'] at h
 exact ⟨Qlh h.1,fun i hi=>by simpa using h.2 i hi⟩
def Qkg (R:Qae) : H→Qae×List Prop
 | .nw _ xs=>(⟨R.T,R.sz,xs⟩,[R.xs=xs])
 | _=>(R,[])
theorem Qt5 {R:Qae} {h:H} (hp:Qb0 (Qkg R h).2) : (Qkg R h).1=R:=by
 unfold Qkg at hp ⊢
 split
 ·simp only [Qb0,and_true] at hp;rw [← hp]
 ·rfl
def idOf:H→Option Nat
 | .nw id _=>some id
 | .new id=>some id
 | .nwc id=>some id
 | _=>none
inductive Xhv:List Value→List Value→Prop where
 | nil:Xhv [] []
 | cons {u v:Value} {us vs:List Value}:VEq u v→Xhv us vs→Xhv (u :: us) (v :: vs)
def IsV (x:AV) (u:Value) : Prop:=(∃ v,x = .lit v∧VEq u v)∨∃ vs us,x = .agg (Qp2 vs)∧u = .agg us.toArray∧Xhv us vs
def LV (x:AV) : Prop:=(∃ v,x = .lit v)∨∃ vs,x = .agg (Qp2 vs)
theorem Qt9 {w:World} {S U:Nat→Prop} {ρ:Tab} : ∀ (vs us:List Value) (f:List Nat),Qah w S U ρ (Qp2 vs) us f→Xhv us vs
 | [],us,f,h=>by simp only [Qp2,List.map_nil,Qah] at h;rw [h.1];exact .nil
 | v :: vs,us,f,h=>by
  simp only [Qp2,List.map_cons,Qah] at h
  obtain ⟨u,us',f1,f2,rfl,_,h1,h2⟩:=h
  exact .cons (Qz2 h1) (Qt9 vs us' f2 h2)
theorem Qks {w:World} {S U:Nat→Prop} {ρ:Tab} {x:AV} {u:Value} {f:List Nat} (h:repR w S U ρ x u f) (hv:LV x) : IsV x u:=by
 rcases hv with ⟨v,rfl⟩ | ⟨vs,rfl⟩
 ·exact .inl ⟨v,rfl,Qz2 h⟩
 ·simp only [repR] at h
  obtain ⟨us,rfl,h⟩:=h
  exact .inr ⟨vs,us,rfl,rfl,Qt9 _ _ _ h⟩
theorem Xhv.eq {us vs:List Value} (h:Xhv us vs) (hn:vs.all nf=true) : us=vs:=by
 induction h with
 | nil=>rfl
 | cons h1 _ ih =>
  simp only [List.all_cons,Bool.and_eq_true] at hn
  rw [h1.eq hn.1,ih hn.2]
def Dr (w w':World) : Prop:=w'=w∨w'=w.drew
def Qil (P:Program) (op:BinOp) (t:Nat) (x y r:AV) : Prop:=LV x∧LV y∧∃ z,r = .lit z∧∀ u v,IsV x u→IsV y v→∀ (w:World) (X Y:Operand),∃ z' w',(do eqGuard op t X Y u v;binOp op t u v:Sem Value).run P w = .ok z' w'∧VEq z' z∧Dr w w'
theorem Qci.dr {E:Env} {s:St} {a:Act} {w w2:World} {χ:Nat→Option Nat} {hd:Nat→Value} (h:Qci E s a w χ hd) (k:Dr w w2) : Qci E s a w2 χ hd:=by
 rcases k with rfl | rfl
 ·exact h
 ·exact h.world rfl rfl Tp.drew rfl
theorem Qjk {w:World} {S U:Nat→Prop} {ρ:Tab} {u v:Value} (h:VEq u v) : repR w S U ρ (.lit v) u []:=by simp only [repR,rep];exact ⟨trivial,h⟩
theorem Xaf {E:Env} {s:St} {o:Oper} {op:BinOp} {t:Nat} {x y:Operand} {sg:Nat} {r:AV} (hop:o.op = .binOp op t x y sg) (hd:okD E.n o.dst=true) (h:Qil E.P op t (Qal s x) (Qal s y) r) : Qm5 E o s (s.putO o.dst r):=by
 rintro a w ⟨χ,hd',hr⟩ K Q hk
 obtain ⟨hu,hv,z,rfl,hb⟩:=h
 obtain ⟨z',w',hb,hz,hw⟩:=hb _ _ (Qks (Qak hr x) hu) (Qks (Qak hr y) hv) w x y
 refine Qei (v:=z') ?_ (hk _ _ ⟨χ,hd',(hr.dr hw).putO hd (Qjk hz)⟩)
 obtain ⟨dst,op',type,pos,after,guard⟩:=o
 simp only at hop
 subst hop
 simp only [execOp]
 rw [Sem.run_bind,hb]
 rfl
def Xb9 (P:Program) (src dst:Nat) (x r:AV) : Prop:=LV x∧∃ z,r = .lit z∧∀ u,IsV x u→∀ w:World,∃ z' w',(convert src dst u).run P w = .ok z' w'∧VEq z' z∧Dr w w'
theorem Qzw {E:Env} {s:St} {o:Oper} {src dst:Nat} {x:Operand} {r:AV} (hop:o.op = .convert src dst x) (hd:okD E.n o.dst=true) (h:Xb9 E.P src dst (Qal s x) r) : Qm5 E o s (s.putO o.dst r):=by
 rintro a w ⟨χ,hd',hr⟩ K Q hk
 obtain ⟨hu,z,rfl,hb⟩:=h
 obtain ⟨z',w',hb,hz,hw⟩:=hb _ (Qks (Qak hr x) hu) w
 refine Qei (v:=z') ?_ (hk _ _ ⟨χ,hd',(hr.dr hw).putO hd (Qjk hz)⟩)
 obtain ⟨dst',op',type,pos,after,guard⟩:=o
 simp only at hop
 subst hop
 simp only [execOp]
 rw [Sem.run_bind,hb]
 rfl
def UnS (P:Program) (op:UnOp) (x r:AV) : Prop:=LV x∧∃ z,r = .lit z∧∀ u,IsV x u→∀ w:World,∃ z' w',(Op.unary op u).run P w = .ok z' w'∧VEq z' z∧Dr w w'
theorem Xc1 {E:Env} {s:St} {o:Oper} {op:UnOp} {t:Nat} {x:Operand} {r:AV} (hop:o.op = .unOp op t x) (hd:okD E.n o.dst=true) (h:UnS E.P op (Qal s x) r) : Qm5 E o s (s.putO o.dst r):=by
 rintro a w ⟨χ,hd',hr⟩ K Q hk
 obtain ⟨hu,z,rfl,hb⟩:=h
 obtain ⟨z',w',hb,hz,hw⟩:=hb _ (Qks (Qak hr x) hu) w
 refine Qei (v:=z') ?_ (hk _ _ ⟨χ,hd',(hr.dr hw).putO hd (Qjk hz)⟩)
 obtain ⟨dst',op',type,pos,after,guard⟩:=o
 simp only at hop
 subst hop
 simp only [execOp]
 rw [Sem.run_bind,hb]
 rfl
def IdxS (P:Program) (t:Nat) (x y r:AV) : Prop:=LV x∧LV y∧∃ z,r = .lit z∧∀ u v,IsV x u→IsV y v→∀ w:World,∃ z' w',(Instr.index t u v).run P w = .ok z' w'∧VEq z' z∧Dr w w'
theorem Xdm {E:Env} {s:St} {o:Oper} {t:Nat} {x y:Operand} {r:AV} (hop:o.op = .index t x y) (hd:okD E.n o.dst=true) (h:IdxS E.P t (Qal s x) (Qal s y) r) : Qm5 E o s (s.putO o.dst r):=by
 rintro a w ⟨χ,hd',hr⟩ K Q hk
 obtain ⟨hu,hv,z,rfl,hb⟩:=h
 obtain ⟨z',w',hb,hz,hw⟩:=hb _ _ (Qks (Qak hr x) hu) (Qks (Qak hr y) hv) w
 refine Qei (v:=z') ?_ (hk _ _ ⟨χ,hd',(hr.dr hw).putO hd (Qjk hz)⟩)
 obtain ⟨dst',op',type,pos,after,guard⟩:=o
 simp only at hop
 subst hop
 simp only [execOp]
 rw [Sem.run_bind,hb]
 rfl
def IaS (X:PK) (t:Nat) (x y r:AV) : Prop:=LV x∧LV y∧∃ z,r = .lit z∧∀ u v,IsV x u→IsV y v→∀ (B:Nat→Prop) (w:World),X.K.k B w→∃ z' w',(Instr.indexAt t u v).run X.p w = .ok z' w'∧VEq z' z∧Dr w w'
theorem Xbv {E:Env} {s:St} {o:Oper} {t:Nat} {x y:Operand} {r:AV} (hop:o.op = .indexAddr t x y) (hd:okD E.n o.dst=true) (h:IaS E.pk t (Qal s x) (Qal s y) r) : Qm5 E o s (s.putO o.dst r):=by
 rintro a w ⟨χ,hd',hr⟩ K Q hk
 obtain ⟨hu,hv,z,rfl,hb⟩:=h
 obtain ⟨z',w',hb,hz,hw⟩:=hb _ _ (Qks (Qak hr x) hu) (Qks (Qak hr y) hv) _ w hr.kk
 have hb:(Instr.indexAt t (a.eval x) (a.eval y)).run E.P w = .ok z' w':=hb
 refine Qei (v:=z') ?_ (hk _ _ ⟨χ,hd',(hr.dr hw).putO hd (Qjk hz)⟩)
 obtain ⟨dst',op',type,pos,after,guard⟩:=o
 simp only at hop
 subst hop
 simp only [execOp]
 rw [Sem.run_bind,hb]
 rfl
def LdS (X:PK) (t:Nat) (x r:AV) : Prop:=LV x∧∃ z,r = .lit z∧∀ u,IsV x u→∀ (B:Nat→Prop) (w:World),X.K.k B w→∃ z' w',(Instr.loadAt t u).run X.p w = .ok z' w'∧VEq z' z∧Dr w w'
theorem Xc2 {E:Env} {s:St} {o:Oper} {t:Nat} {x:Operand} {r:AV} (hop:o.op = .load t x) (hd:okD E.n o.dst=true) (h:LdS E.pk t (Qal s x) r) : Qm5 E o s (s.putO o.dst r):=by
 rintro a w ⟨χ,hd',hr⟩ K Q hk
 obtain ⟨hu,z,rfl,hb⟩:=h
 obtain ⟨z',w',hb,hz,hw⟩:=hb _ (Qks (Qak hr x) hu) _ w hr.kk
 have hb:(Instr.loadAt t (a.eval x)).run E.P w = .ok z' w':=hb
 refine Qei (v:=z') ?_ (hk _ _ ⟨χ,hd',(hr.dr hw).putO hd (Qjk hz)⟩)
 obtain ⟨dst',op',type,pos,after,guard⟩:=o
 simp only at hop
 subst hop
 simp only [execOp]
 rw [Sem.run_bind,hb]
 rfl
def OV (x:Option AV) (u:Option Value) : Prop:=match x,u with
 | none,none=>True
 | some x,some u=>IsV x u
 | _,_=>False
def LVo (x:Option AV) : Prop:=match x with
 | none=>True
 | some x=>LV x
def CutS (P:Program) (t:Nat) (x:AV) (lo hi:Option AV) (r:AV) : Prop:=LV x∧LVo lo∧LVo hi∧∃ z,r = .lit z∧∀ u l h,IsV x u→OV lo l→OV hi h→∀ w:World,∃ z' w',(Instr.sliceAt t u l h none).run P w = .ok z' w'∧VEq z' z∧Dr w w'
theorem Qzv {E:Env} {s:St} {o:Oper} {t:Nat} {x:Operand} {lo hi:Option Operand} {r:AV} (hop:o.op = .slice t x lo hi none) (hd:okD E.n o.dst=true) (h:CutS E.P t (Qal s x) (lo.map (Qal s)) (hi.map (Qal s)) r) : Qm5 E o s (s.putO o.dst r):=by
 rintro a w ⟨χ,hd',hr⟩ K Q hk
 obtain ⟨hu,hl,hh,z,rfl,hb⟩:=h
 have ov : ∀ y:Option Operand,LVo (y.map (Qal s))→OV (y.map (Qal s)) (y.map a.eval):=by
  intro y hy
  cases y with
  | none=>trivial
  | some y=>exact Qks (Qak hr y) hy
 obtain ⟨z',w',hb,hz,hw⟩:=hb _ _ _ (Qks (Qak hr x) hu) (ov lo hl) (ov hi hh) w
 refine Qei (v:=z') ?_ (hk _ _ ⟨χ,hd',(hr.dr hw).putO hd (Qjk hz)⟩)
 obtain ⟨dst',op',type,pos,after,guard⟩:=o
 simp only at hop
 subst hop
 simp only [execOp,Option.map_none]
 rw [Sem.run_bind,hb]
 rfl
def b2s (l:List Int) : List UInt8:=l.map fun n=>UInt8.ofNat n.toNat
theorem Qq3 {w:World} {S U:Nat→Prop} {ρ:Tab} {sz:Nat} : ∀ (zs:List Int) (vs:List Value) (f:List Nat),Qao w S U ρ sz (zs.map fun n=>[.lit (.int .u8 n)]) vs f→vs=zs.map (Value.int .u8)∧(zs≠[]→sz=1)
 | [],vs,f,h=>by simp only [List.map_nil,Qao] at h;exact ⟨h.1,fun h=>absurd rfl h⟩
 | z :: zs,vs,f,h=>by
  simp only [List.map_cons,Qao] at h
  obtain ⟨u,us',f1,f2,rfl,rfl,hl,hc,k1,k2⟩:=h
  obtain ⟨e1,_⟩:=Qq3 zs us' f2 k2
  simp only [Qah] at k1
  obtain ⟨u1,us1,g1,g2,rfl,rfl,j1,j2,_⟩:=k1
  subst j2
  simp only [repR,rep] at j1
  have:=j1.2.eq (by rfl)
  subst this
  exact ⟨by simp [e1],fun _=>by simpa using hl.symm⟩
theorem Xfk {E:Env} {Θ:Tys} (hΘ:TOK E.P Θ) {s:St} {o:Oper} {src dst e:Nat} {x:Operand} {i off len:Nat} {R:Qae} {l:List Int} {a1 b1 a2 b2 a3 b3:Nat} {z1 z2 z3:List Value} (hop:o.op = .convert src dst x) (hd:okD E.n o.dst=true) (h1:Θ.lookup src=some ⟨a1,b1,.slice e,z1⟩) (h2:Θ.lookup dst=some ⟨a2,b2,.string,z2⟩) (h3:Θ.lookup e=some ⟨a3,b3,.int .u8,z3⟩)
    (hx:Qal s x = .sl i off len) (hR:s.root i=some R) (hw:(R.xs.drop off).take len=l.map fun n=>[.lit (.int .u8 n)]) : Qm5 E o s (s.putO o.dst (.lit (.string ⟨(b2s l).toArray⟩))):=by
  rintro a w ⟨χ,hd',hr⟩ K Q hk
  have hxr:=Qak hr x
  rw [hx] at hxr
  simp only [repR] at hxr
  obtain ⟨_,_,hxr⟩:=hxr
  obtain ⟨hle,hu,_⟩:=hxr (hd' i) R.xs.length R.sz (by simp [tab,hR])
  obtain ⟨A,cap,vs,g,hv,hcap,hrr,hg,hA⟩:=Qu5 hr hR hle hu
  rw [hw] at hrr
  obtain ⟨rfl,hsz⟩:=Qq3 l vs g hrr
  have hlen:l.length=len:=by
    have:=congrArg List.length hw
    rw [List.length_take,List.length_drop,List.length_map] at this
    omega
  have us:=Qas (hΘ.get h1)
  have ud:=Qas (hΘ.get h2)
  have ue:=Qas (hΘ.get h3)
  have hrun:(convert src dst (a.eval x)).run E.P w = .ok (.string ⟨(b2s l).toArray⟩) w:=by
    rw [hv]
    by_cases h0:len=0
    · subst h0
      have:l=[]:=List.length_eq_zero_iff.1 hlen
      subst this
      rw [run_convert_bytes_string w src dst e A 0 cap us ue ud]
      cases A with
      | none=>simp [Conv.bytesToString];rfl
      | some A=>rw [run_bytesToString w A 0 cap [] (by simp [loadCells];rfl)];rfl
    · obtain ⟨b,rfl,hat,_⟩:=hA (by omega)
      have h1:=hsz (by rintro rfl;simp at hlen;omega)
      rw [run_convert_bytes_arg w src e us ue b (off * R.sz) len cap l hlen (fun j hj=>by
        refine hat j _ ?_
        rw [List.getElem?_map,List.getD,List.getElem?_eq_getElem (by omega)]
        rfl) dst ud]
      rfl
  refine Qei (v:=.string ⟨(b2s l).toArray⟩) ?_ (hk _ _ ⟨χ,hd',hr.putO hd (by simp [repR,rep])⟩)
  obtain ⟨dst',op',type,pos,after,guard⟩:=o
  simp only at hop
  subst hop
  simp only [execOp]
  rw [Sem.run_bind,hrun]
  rfl
def ExtS (P:Program) (f:FuncId) (x r:AV) : Prop:=LV x∧∃ z,r = .lit z∧∀ u,IsV x u→∀ w:World,∃ z' w',(callFunc f #[u]).run P w = .ok (.value z') w'∧VEq z' z∧Dr w w'
theorem Xe3 {E:Env} {s:St} {o:Oper} {x y:Operand} {f:FuncId} {tys:Array TypeId} {r:AV} (hop:o.op = .call ⟨.value x, #[y],tys⟩) (hx:Qal s x = .fn f []) (hd:okD E.n o.dst=true) (h:ExtS E.P f (Qal s y) r) : Qm5 E o s (s.putO o.dst r):=by
 rintro a w ⟨χ,hd',hr⟩ K Q hk
 obtain ⟨hu,z,rfl,hb⟩:=h
 obtain ⟨z',w',hb,hz,hw⟩:=hb _ (Qks (Qak hr y) hu) w
 have hxr:=Qak hr x
 rw [hx] at hxr
 simp only [repR,Qah] at hxr
 obtain ⟨vs,hxv,rfl,_⟩:=hxr
 refine Qei (v:=z') ?_ (hk _ _ ⟨χ,hd',(hr.dr hw).putO hd (Qjk hz)⟩)
 obtain ⟨dst',op',type,pos,after,guard⟩:=o
 simp only at hop
 subst hop
 simp only [execOp,resolve,hxv,invoke,Deferred.ofValue,Sem.run_bind,Sem.run_pure,Result.andThen_ok]
 simpa using hb
def exO (P:PK) (s:St) (o:Oper) (i T sz:Nat) (ks:List Nat) (cx cy:List AV) (zss:List (List (List AV))) (res x':AV) : Option (List (Nat×Option Qae)×List Prop):=
 match o.op with
 | .call ⟨.value x,args,_⟩=>match Qal s x with
  | .fn f caps=>match Qke s [(i,0)] (args.toList.map (Qal s)++caps) zss with
   | some (outs,ps,[])=>if Qul s i ks 0 cx then some ((i,some ⟨T,sz,[unh ks 0 cx cy]⟩) :: s.rt,(∀ V,Qaw P f [⟨T,sz,[hid V ks 0 cx]⟩] outs [true] [⟨T,sz,[hid V ks 0 cy]⟩] res) :: (s.root i=some ⟨T,sz,[cx]⟩) :: (cx.length=cy.length) :: (∀ V,Qa1 [hid V ks 0 cx]=true∧Qa4 [hid V ks 0 cx]=true) :: ((rtf (Qe3 (Qm0 [i] [true]) res) []).1=x') :: ((rtf (Qe3 (Qm0 [i] [true]) res) []).2.1=[]) :: ps) else none
   | _=>none
  | _=>none
 | _=>none
theorem Xeq {E:Env} {s:St} {o:Oper} {i T sz:Nat} {ks:List Nat} {cx cy:List AV} {zss:List (List (List AV))} {res x':AV} {rt:List (Nat×Option Qae)} {ps:List Prop} (hd:okD E.n o.dst=true) (he:exO E.pk s o i T sz ks cx cy zss res x'=some (rt,ps)) (hp:Qb0 ps) : Qm5 E o s (St.putO { s with rt:=rt } o.dst x'):=by
 unfold exO at he
 split at he
 case h_2=>cases he
 rename_i x args tys hop
 split at he
 case h_2=>cases he
 rename_i f caps hx
 split at he
 case h_2=>cases he
 rename_i outs qs hout
 split at he
 case isFalse=>cases he
 rename_i hok
 cases he
 obtain ⟨h1,h2,h3,h4,h5,h6,h7⟩:=hp
 have:=Qt3 (E:=E) hop hx hd h2 hok h3 h4 (Qfz _ _ _ _ _ hout h7) h1 h6
 rw [h5] at this
 exact this
def ex1 (Θ:Tys) (P:PK) (n:Nat) (s:St) (o:Oper) (h:Hn) : Option (St×List Prop):=
 if okD n o.dst then
  match idOf h.h with
  | some id=>if frB s.us [id] then match Xko Θ s o.op h.h id with
   | some (R,r,ps)=>some ((s.add id (Qkg R h.h).1).putO o.dst (ovr r h.o).1,(Qkg R h.h).2++((ovr r h.o).2++ps))
   | none=>none
   else none
  | none=>match h.h with
   | .app id zs=>if frB s.us [id] then match o.op with
    | .call ⟨.builtin .append,args,tys⟩=>match args.toList,tys.toList with
     | [x,y],[t,t']=>if t=t' then match Θ.lookup t with
      | some ⟨_,_,.slice el,_⟩=>match Θ.lookup el with
       | some te=>if zOK te then match Qpc s el te.sz (Qal s x),Qpd s te.sz (Qal s y) with
        | some (xs,k),some ys=>some (((s.killO k).add id ⟨el,te.sz,zs⟩).putO o.dst (.sl id 0 zs.length),[xs++ys=zs,ys.all (fun r=>r.all AV.plain)=true,zs.length * te.bytes≤140737488355328,zs.length≤140737488355328])
        | _,_=>none
        else none
       | none=>none
      | _=>none
      else none
     | _,_=>none
    | _=>none
    else none
   | .bin r=>match o.op with
    | .binOp op t x y _=>some (s.putO o.dst (ovr r h.o).1,Qil P.p op t (Qal s x) (Qal s y) r :: (ovr r h.o).2)
    | _=>none
   | .cnv r=>match o.op with
    | .convert src dst x=>some (s.putO o.dst (ovr r h.o).1,Xb9 P.p src dst (Qal s x) r :: (ovr r h.o).2)
    | .unOp op _ x=>some (s.putO o.dst (ovr r h.o).1,UnS P.p op (Qal s x) r :: (ovr r h.o).2)
    | .index t x y=>some (s.putO o.dst (ovr r h.o).1,IdxS P.p t (Qal s x) (Qal s y) r :: (ovr r h.o).2)
    | .slice t x lo hi none=>some (s.putO o.dst (ovr r h.o).1,CutS P.p t (Qal s x) (lo.map (Qal s)) (hi.map (Qal s)) r :: (ovr r h.o).2)
    | .indexAddr t x y=>some (s.putO o.dst (ovr r h.o).1,IaS P t (Qal s x) (Qal s y) r :: (ovr r h.o).2)
    | .load t x=>some (s.putO o.dst (ovr r h.o).1,LdS P t (Qal s x) r :: (ovr r h.o).2)
    | _=>none
   | .bts l=>match o.op with
    | .convert src dst x=>match Θ.lookup src,Θ.lookup dst,Qal s x with
     | some ⟨_,_,.slice e,_⟩,some ⟨_,_,.string,_⟩,.sl i off len=>match Θ.lookup e,s.root i with
      | some ⟨_,_,.int .u8,_⟩,some R=>some (s.putO o.dst (.lit (.string ⟨(b2s l).toArray⟩)),[(R.xs.drop off).take len=l.map fun n=>[.lit (.int .u8 n)]])
      | _,_=>none
     | _,_,_=>none
    | _=>none
   | .xt r=>match o.op with
    | .call ⟨.value x,args,_⟩=>match Qal s x with
     | .fn f []=>match args.toList with
      | [y]=>some (s.putO o.dst (ovr r h.o).1,ExtS P.p f (Qal s y) r :: (ovr r h.o).2)
      | _=>none
     | _=>none
    | _=>none
   | .sto x xs'=>match o.op,o.dst with
    | .store t p y,none=>match Θ.lookup t,Qal s p with
     | some ti,.ptr i e oo=>match s.root i with
      | some R=>if (cellsOf (Qal s y)).all (Qeh s) then some (s.setR i ⟨R.T,R.sz,xs'⟩,[R.xs[e]? = some x,R.xs.set e (wr x oo (cellsOf (Qal s y)))=xs',(cellsOf (Qal s y)).length=ti.sz,oo+(cellsOf (Qal s y)).length≤x.length]) else none
      | none=>none
     | _,_=>none
    | _,_=>none
   | .stoS x xs'=>match o.op,o.dst with
    | .store t p y,none=>match Θ.lookup t,Qal s p with
     | some ti,.ptr i e oo=>match s.root i with
      | some R=>some (s.setR i ⟨R.T,R.sz,xs'⟩,[R.xs[e]? = some x,R.xs.set e (wr x oo (cellsOf (Qal s y)))=xs',(cellsOf (Qal s y)).length=ti.sz,oo+(cellsOf (Qal s y)).length≤x.length,(cellsOf (Qal s y)).all Qjb=true])
      | none=>none
     | _,_=>none
    | _,_=>none
   | .callV zss res=>match o.op with
    | .call ⟨.value x,args,_⟩=>match Qal s x with
     | .fn f caps=>match Qke s [] (args.toList.map (Qal s)++caps) zss with
      | some (outs,ps,[])=>some (s.putO o.dst (ovr res h.o).1,Qab P.p f outs res :: (Qa8 res=true) :: ((ovr res h.o).2++ps))
      | _=>none
     | _=>none
    | _=>none
   | .callR zss res ids x' l=>if frB s.us ids then match o.op with
    | .call ⟨.value x,args,_⟩=>match Qal s x with
     | .fn f caps=>match Qke s [] (args.toList.map (Qal s)++caps) zss with
      | some (outs,ps,[])=>some ((s.addL l).putO o.dst x',Qab P.p f outs res :: (Qez res=true) :: ((rtf res ids).1=x') :: ((rtf res ids).2.1=l) :: ps)
      | _=>none
     | _=>none
    | _=>none
    else none
   | .call zss res ids=>if frB s.us ids then match o.op with
    | .call ⟨.value x,args,_⟩=>match Qal s x with
     | .fn f caps=>match Qke s [] (args.toList.map (Qal s)++caps) zss with
      | some (outs,ps,[])=>some ((s.addL (rtf res ids).2.1).putO o.dst (ovr (rtf res ids).1 h.o).1,Qab P.p f outs res :: (Qez res=true) :: ((ovr (rtf res ids).1 h.o).2++ps))
      | _=>none
     | _=>none
    | _=>none
    else none
   | .callD τs zss res ids=>if frB s.us ids then match o.op with
    | .call ⟨.value x,args,_⟩=>match Qal s x with
     | .fn f caps=>match Qz5 s (Xf6 s τs) (args.toList.map (Qal s)++caps) zss with
      | some (outs,ps,[])=>some ((s.addL (rtf res ids).2.1).putO o.dst (ovr (rtf res ids).1 h.o).1,Qab P.p f outs res :: (Qez res=true) :: ((ovr (rtf res ids).1 h.o).2++ps))
      | _=>none
     | _=>none
    | _=>none
    else none
   | .callX ρ ks rs rs' zss res ids x' l=>if ndB ρ && (ks.length == ρ.length) && Qpv rs rs' && frB s.us ids then match o.op with
    | .call ⟨.value x,args,_⟩=>match Qal s x with
     | .fn f caps=>match Qke s ρ.zipIdx (args.toList.map (Qal s)++caps) zss with
      | some (outs,ps,[])=>some (((s.back (Qk0 ρ ks rs')).addL l).putO o.dst x',Qaw P f rs outs ks rs' res :: Qqg s ρ rs :: Xl0 rs :: Xbb rs rs' :: ((rtf (Qe3 (Qm0 ρ ks) res) ids).1=x') :: ((rtf (Qe3 (Qm0 ρ ks) res) ids).2.1=l) :: ps)
      | _=>none
     | _=>none
    | _=>none
    else none
   | .callO i T sz ks cx cy zss res x'=>match exO P s o i T sz ks cx cy zss res x' with
    | some (rt,ps)=>some (St.putO { s with rt:=rt } o.dst x',ps)
    | none=>none
   | .callS res ids x' l=>if frB s.us ids then match o.op with
    | .call ⟨.value x,args,_⟩=>match Qal s x with
     | .fn f caps=>some ((s.addL l).putO o.dst x',[Qab P.p f (args.toList.map (Qal s)++caps) res,Qeq (args.toList.map (Qal s)++caps)=true,(rtf res ids).1=x',(rtf res ids).2.1=l])
     | _=>none
    | _=>none
    else none
   | .no=>match o.op with
    | .store t p y=>match o.dst with
     | none=>match Θ.lookup t,Qal s p with
      | some ti,.ptr i e oo=>match s.root i with
       | some R=>match R.xs[e]? with
        | some x=>if (cellsOf (Qal s y)).all (Qeh s) then (if (cellsOf (Qal s y)).length=ti.sz then (if oo+(cellsOf (Qal s y)).length≤x.length then some (s.setR i ⟨R.T,R.sz,R.xs.set e (wr x oo (cellsOf (Qal s y)))⟩,[]) else none) else none) else none
        | none=>none
       | none=>none
      | _,_=>none
     | _=>none
    | op=>match vx Θ s op .no with
     | some (r,ps)=>some (s.putO o.dst (ovr r h.o).1,(ovr r h.o).2++ps)
     | none=>none
   | .api=>exN Θ s o .api
   | .sl3=>exN Θ s o .sl3
   | .slB=>exN Θ s o .slB
   | .clr xs'=>exN Θ s o (.clr xs')
   | .shr id zs=>exN Θ s o (.shr id zs)
   | hh=>match vx Θ s o.op hh with
    | some (r,ps)=>some (s.putO o.dst (ovr r h.o).1,(ovr r h.o).2++ps)
    | none=>none
 else none
theorem Xed {E:Env} {Θ:Tys} (hΘ:TOK E.P Θ) {s s':St} {o:Oper} {hh:H} {ov:Option AV} {ps:List Prop} (hd:okD E.n o.dst=true)
    (he:(match vx Θ s o.op hh with
        | some (r,ps)=>some (s.putO o.dst (ovr r ov).1,(ovr r ov).2++ps)
        | none=>none)=some (s',ps)) (hp:Qb0 ps) : Qm5 E o s s':=by
  split at he
  case h_2=>cases he
  rename_i r qs hv
  cases he
  obtain ⟨h1,h2⟩:=Qaq hp
  rw [Qfe h1]
  exact Qze hΘ hd (Qzm hv h2)
theorem Xep {E:Env} {Θ:Tys} (hΘ:TOK E.P Θ) {s s':St} {o:Oper} {h:Hn} {ps:List Prop} (he:ex1 Θ E.pk E.n s o h=some (s',ps)) (hp:Qb0 ps) : Qm5 E o s s':=by
 unfold ex1 at he
 split at he
 case isFalse=>cases he
 rename_i hd
 split at he
 ·rename_i id hid
  split at he
  case isFalse=>cases he
  rename_i hf
  split at he
  case h_2=>cases he
  rename_i R r qs hn
  cases he
  obtain ⟨h1,h2⟩:=Qaq hp
  obtain ⟨h3,h4⟩:=Qaq h2
  rw [Qt5 h1,Qfe h3]
  exact Qz9 hΘ id ((Qf4 hf).2 id (by simp)) hd (Qtk hn h4)
 ·split at he
  ·rename_i id zs _
   split at he
   case isFalse=>cases he
   rename_i hf
   split at he
   case h_2=>cases he
   rename_i args tys hop
   split at he
   case h_2=>cases he
   rename_i x y t t' ha ht
   split at he
   case isFalse=>cases he
   rename_i htt
   subst htt
   split at he
   case h_2=>cases he
   rename_i sz by_ el ze hti
   split at he
   case h_2=>cases he
   rename_i te hte
   split at he
   case isFalse=>cases he
   rename_i hz
   split at he
   case h_2=>cases he
   rename_i xs k ys hx hy
   cases he
   obtain ⟨h1,h2,h3,h4,_⟩:=hp
   have e1:args = #[x,y]:=by rw [← Array.toArray_toList (xs:=args),ha]
   have e2:tys = #[t,t]:=by rw [← Array.toArray_toList (xs:=tys),ht]
   subst e1;subst e2;subst h1
   rw [List.length_append] at h3 h4 ⊢
   exact Xa5 hΘ id ((Qf4 hf).2 id (by simp)) hd hop hti hte hz hx hy (fun r hr=>by rw [List.all_eq_true] at h2;exact h2 r hr) h3 h4
  ·rename_i rr _
   split at he
   case h_2=>cases he
   rename_i op t x y sg hop
   cases he
   obtain ⟨h1,h2⟩:=hp
   rw [Qfe h2]
   exact Xaf hop hd h1
  ·rename_i rr _
   split at he
   case h_7=>cases he
   ·rename_i src dst x hop
    cases he
    obtain ⟨h1,h2⟩:=hp
    rw [Qfe h2]
    exact Qzw hop hd h1
   ·rename_i op t x hop
    cases he
    obtain ⟨h1,h2⟩:=hp
    rw [Qfe h2]
    exact Xc1 hop hd h1
   ·rename_i t x y hop
    cases he
    obtain ⟨h1,h2⟩:=hp
    rw [Qfe h2]
    exact Xdm hop hd h1
   ·rename_i t x lo hi hop
    cases he
    obtain ⟨h1,h2⟩:=hp
    rw [Qfe h2]
    exact Qzv hop hd h1
   ·rename_i t x y hop
    cases he
    obtain ⟨h1,h2⟩:=hp
    rw [Qfe h2]
    exact Xbv hop hd h1
   ·rename_i t x hop
    cases he
    obtain ⟨h1,h2⟩:=hp
    rw [Qfe h2]
    exact Xc2 hop hd h1
  ·rename_i l _
   split at he
   case h_2=>cases he
   rename_i src dst x hop
   split at he
   case h_2=>cases he
   rename_i a1 b1 e z1 a2 b2 z2 i off len h1 h2 hx
   split at he
   case h_2=>cases he
   rename_i a3 b3 z3 R h3 hR
   cases he
   obtain ⟨h4,_⟩:=hp
   exact Xfk hΘ hop hd h1 h2 h3 hx hR h4
  ·rename_i rr _
   split at he
   case h_2=>cases he
   rename_i x args tys hop
   split at he
   case h_2=>cases he
   rename_i f hx
   split at he
   case h_2=>cases he
   rename_i y ha
   cases he
   obtain ⟨h1,h2⟩:=hp
   rw [Qfe h2]
   have e1:args = #[y]:=by rw [← Array.toArray_toList (xs:=args),ha]
   subst e1
   exact Xe3 hop hx hd h1
  ·rename_i x xs' _
   split at he
   case h_2=>cases he
   rename_i t p y hop hdst
   split at he
   case h_2=>cases he
   rename_i ti i e oo hti hpt
   split at he
   case h_2=>cases he
   rename_i R hR
   split at he
   case isFalse=>cases he
   rename_i hok
   cases he
   obtain ⟨h1,h2,h3,h4,_⟩:=hp
   subst h2
   exact Qm9 hΘ hop hdst hti hpt hR h1 h3 h4 hok
  ·rename_i x xs' _
   split at he
   case h_2=>cases he
   rename_i t p y hop hdst
   split at he
   case h_2=>cases he
   rename_i ti i e oo hti hpt
   split at he
   case h_2=>cases he
   rename_i R hR
   cases he
   obtain ⟨h1,h2,h3,h4,h5,_⟩:=hp
   subst h2
   exact Qm9 hΘ hop hdst hti hpt hR h1 h3 h4 (Xeb h5)
  ·rename_i zss res _
   split at he
   case h_2=>cases he
   rename_i x args tys hop
   split at he
   case h_2=>cases he
   rename_i f caps hx
   split at he
   case h_2=>cases he
   rename_i outs qs hout
   cases he
   obtain ⟨h1,h2,h3⟩:=hp
   obtain ⟨h4,h5⟩:=Qaq h3
   rw [Qfe h4]
   have:=Qiq (E:=E) hop hx hd (Qm7 hout h5) h1 (Qs3 _ h2) [] List.nodup_nil (by simp)
   rw [Qun _ _ h2] at this
   exact this
  ·rename_i zss res ids x' l _
   split at he
   case isFalse=>cases he
   rename_i hf
   split at he
   case h_2=>cases he
   rename_i x args tys hop
   split at he
   case h_2=>cases he
   rename_i f caps hx
   split at he
   case h_2=>cases he
   rename_i outs qs hout
   cases he
   obtain ⟨h1,h2,h3,h4,h5⟩:=hp
   have:=Qiq (E:=E) hop hx hd (Qm7 hout h5) h1 h2 ids (Qf4 hf).1 (Qf4 hf).2
   rw [h3,h4] at this
   exact this
  ·rename_i zss res ids _
   split at he
   case isFalse=>cases he
   rename_i hf
   split at he
   case h_2=>cases he
   rename_i x args tys hop
   split at he
   case h_2=>cases he
   rename_i f caps hx
   split at he
   case h_2=>cases he
   rename_i outs qs hout
   cases he
   obtain ⟨h1,h2,h3⟩:=hp
   obtain ⟨h4,h5⟩:=Qaq h3
   rw [Qfe h4]
   exact Qiq hop hx hd (Qm7 hout h5) h1 h2 ids (Qf4 hf).1 (Qf4 hf).2
  ·rename_i τs zss res ids _
   split at he
   case isFalse=>cases he
   rename_i hf
   split at he
   case h_2=>cases he
   rename_i x args tys hop
   split at he
   case h_2=>cases he
   rename_i f caps hx
   split at he
   case h_2=>cases he
   rename_i outs qs hout
   cases he
   obtain ⟨h1,h2,h3⟩:=hp
   obtain ⟨h4,h5⟩:=Qaq h3
   rw [Qfe h4]
   exact Xar hop hx hd (fun hrel us hr=>Qkd (Xa4 s τs) hrel _ _ _ _ _ _ _ hout h5 hr) h1 h2 ids (Qf4 hf).1 (Qf4 hf).2
  ·rename_i ρ ks rs rs' zss res ids x' l _
   split at he
   case isFalse=>cases he
   rename_i hf
   simp only [Bool.and_eq_true,beq_iff_eq] at hf
   obtain ⟨⟨⟨f1,f2⟩,f3⟩,f4⟩:=hf
   split at he
   case h_2=>cases he
   rename_i x args tys hop
   split at he
   case h_2=>cases he
   rename_i f caps hx
   split at he
   case h_2=>cases he
   rename_i outs qs hout
   cases he
   obtain ⟨h1,h2,h3,h4,h5,h6,h7⟩:=hp
   have:=Qpy (E:=E) hop hx hd (Qlh f1) h2 (Qv5 h3) f2 f3 h4 (Qfz _ _ _ _ _ hout h7) h1 ids (Qf4 f4).1 (Qf4 f4).2
   rw [h5,h6] at this
   exact this
  ·split at he
   case h_2=>cases he
   rename_i rt qs hO
   cases he
   exact Xeq hd hO hp
  ·rename_i res ids x' l _
   split at he
   case isFalse=>cases he
   rename_i hf
   split at he
   case h_2=>cases he
   rename_i x args tys hop
   split at he
   case h_2=>cases he
   rename_i f caps hx
   cases he
   obtain ⟨h1,h2,h3,h4,_⟩:=hp
   have:=Qtg (E:=E) hop hx hd h2 h1 ids (Qf4 hf).1 (Qf4 hf).2
   rw [h3,h4] at this
   exact this
  ·split at he
   ·rename_i t p y hop
    split at he
    case h_2=>cases he
    rename_i hdst
    split at he
    case h_2=>cases he
    rename_i ti i e oo hti hpt
    split at he
    case h_2=>cases he
    rename_i R hR
    split at he
    case h_2=>cases he
    rename_i x hx
    split at he
    case isFalse=>cases he
    rename_i hok
    split at he
    case isFalse=>cases he
    rename_i hl
    split at he
    case isFalse=>cases he
    rename_i hl2
    cases he
    exact Qm9 hΘ hop hdst hti hpt hR hx hl hl2 hok
   ·exact Xed hΘ hd he hp
  ·exact Qla hΘ hd he hp
  ·exact Qla hΘ hd he hp
  ·exact Qla hΘ hd he hp
  ·exact Qla hΘ hd he hp
  ·exact Qla hΘ hd he hp
  ·exact Xed hΘ hd he hp
end Go.T
set_option linter.unusedVariables false
namespace Go.T
open Go Go.RowKit Go.Proofs
section
variable {w:World} {S U:Nat→Prop} {ρ:Tab}
theorem Xab {T sz:Nat} (u:Value) (f:List Nat) (h:repR w S U ρ (.lit (.slice none 0 0)) u f) : repR w S U ρ (.own T sz []) u f:=by
 simp only [repR,rep] at h ⊢
 obtain ⟨rfl,rfl⟩:=h
 exact ⟨[],[],⟨by simp,.inl ⟨rfl,rfl⟩⟩,by simp [Qdt],by simp [Value.ownBlock]⟩
theorem Qtn {a b:AV} (hc : ∀ u f,repR w S U ρ a u f→repR w S U ρ b u f) (post:List AV) : ∀ (pre:List AV) (vs:List Value) (f:List Nat),Qah w S U ρ (pre++a :: post) vs f→Qah w S U ρ (pre++b :: post) vs f
 | [],vs,f,h=>by
  simp only [List.nil_append,Qah] at h ⊢
  obtain ⟨u,us,f1,f2,e1,e2,h1,h2⟩:=h
  exact ⟨u,us,f1,f2,e1,e2,hc _ _ h1,h2⟩
 | c :: pre,vs,f,h=>by
  simp only [List.cons_append,Qah] at h ⊢
  obtain ⟨u,us,f1,f2,e1,e2,h1,h2⟩:=h
  exact ⟨u,us,f1,f2,e1,e2,h1,Qtn hc post pre _ _ h2⟩
theorem Qlz {sz:Nat} {x y:List AV} (hc : ∀ us f,Qah w S U ρ x us f→Qah w S U ρ y us f) : ∀ (n:Nat) (vs:List Value) (f:List Nat),Qao w S U ρ sz (List.replicate n x) vs f→Qao w S U ρ sz (List.replicate n y) vs f
 | 0,vs,f,h=>h
 | n+1,vs,f,h=>by
  simp only [List.replicate_succ,Qao] at h ⊢
  obtain ⟨us,us',f1,f2,e1,e2,h1,h2,h3,h4⟩:=h
  exact ⟨us,us',f1,f2,e1,e2,h1,h2,hc _ _ h3,Qlz hc n _ _ h4⟩
end
theorem Qwt {w:World} {S U:Nat→Prop} {ρ:Tab} {a b:AV} (hc : ∀ u f,repR w S U ρ a u f→repR w S U ρ b u f) : ∀ (n:Nat) (vs:List Value) (f:List Nat),Qah w S U ρ (List.replicate n a) vs f→Qah w S U ρ (List.replicate n b) vs f
 | 0,vs,f,h=>h
 | n+1,vs,f,h=>by
  simp only [List.replicate_succ,Qah] at h ⊢
  obtain ⟨u,us,f1,f2,e1,e2,h1,h2⟩:=h
  exact ⟨u,us,f1,f2,e1,e2,hc _ _ h1,Qwt hc n _ _ h2⟩
theorem Qrq {E:Env} {sl:List (Nat×AV)} {rt:List (Nat×Option Qae)} {us:List Nat} {i T sz:Nat} {xs xs':List (List AV)} (hR:St.root ⟨sl,rt,us⟩ i=some ⟨T,sz,xs⟩)
  (hl:xs'.length=xs.length) (hc : ∀ (w:World) (S U:Nat→Prop) (ρ:Tab) vs f,Qao w S U ρ sz xs vs f→Qao w S U ρ sz xs' vs f) : Ent E ⟨sl,rt,us⟩ ⟨sl,(i,some ⟨T,sz,xs'⟩) :: rt,us⟩:=by
 rintro a w ⟨χ,hd,h⟩
 have hiJ:i≠JJ:=fun e=>by rw [e,h.rj] at hR;cases hR
 have htab:tab ⟨sl,(i,some ⟨T,sz,xs'⟩) :: rt,us⟩ hd=tab ⟨sl,rt,us⟩ hd:=by
  funext k
  unfold tab
  by_cases e:k=i
  ·subst e
   rw [hR,show St.root ⟨sl,(k,some ⟨T,sz,xs'⟩) :: rt,us⟩ k=_ from St.root_setR_same ⟨sl,rt,us⟩ k _]
   simp [hl]
  ·rw [show St.root ⟨sl,(i,some ⟨T,sz,xs'⟩) :: rt,us⟩ k=_ from St.root_setR_ne ⟨sl,rt,us⟩ e _]
 refine ⟨χ,hd,h.defers,h.size,h.os,h.tape,h.output,h.hsz,h.frame,h.fx,h.jj,?_,h.jk,h.col,?_,?_⟩
 ·exact (St.root_setR_ne ⟨sl,rt,us⟩ (Ne.symm hiJ) _).trans h.rj
 ·intro k R hk
  by_cases e:k=i
  ·subst e
   have:R=⟨T,sz,xs'⟩:=by
    have h0:=St.root_setR_same ⟨sl,rt,us⟩ k ⟨T,sz,xs'⟩
    have:=h0.symm.trans hk
    cases this;rfl
   subst this
   obtain ⟨hi,fp,⟨hz,vs,fp',ho,hr,he⟩,hnd,hcol⟩:=h.rts k _ hR
   refine ⟨hi,fp,⟨hz,vs,fp',?_,?_,he⟩,hnd,hcol⟩
   ·rw [hl];exact ho
   ·rw [htab]
    exact hc _ _ _ _ vs fp' hr
  ·obtain ⟨hi,fp,hr,hnd,hcol⟩:=h.rts k R ((St.root_setR_ne ⟨sl,rt,us⟩ e _).symm.trans hk)
   refine ⟨hi,fp,?_,hnd,hcol⟩
   rw [htab];exact hr
 ·intro t
  rw [htab];exact h.slots t
theorem Xfs {E:Env} {sl:List (Nat×AV)} {rt:List (Nat×Option Qae)} {us:List Nat} {i T sz n T2 sz2:Nat} {pre post:List AV} {xs xs':List (List AV)} (hR:St.root ⟨sl,rt,us⟩ i=some ⟨T,sz,xs⟩)
  (h1:xs=List.replicate n (pre ++ .lit (.slice none 0 0) :: post)) (h2:List.replicate n (pre ++ .own T2 sz2 [] :: post)=xs') : Ent E ⟨sl,rt,us⟩ ⟨sl,(i,some ⟨T,sz,xs'⟩) :: rt,us⟩:=by
 subst h1 h2
 exact Qrq hR (by simp) fun w S U ρ vs f hr=>Qlz (fun us f=>Qtn (fun u f=>Xab u f) post pre us f) n vs f hr
theorem Xf2 {E:Env} {sl:List (Nat×AV)} {rt:List (Nat×Option Qae)} {us:List Nat} {i T sz n T2 sz2:Nat} {xs xs':List (List AV)} (hR:St.root ⟨sl,rt,us⟩ i=some ⟨T,sz,xs⟩)
  (h1:xs=[List.replicate n (.lit (.slice none 0 0))]) (h2 : [List.replicate n (.own T2 sz2 [])]=xs') : Ent E ⟨sl,rt,us⟩ ⟨sl,(i,some ⟨T,sz,xs'⟩) :: rt,us⟩:=by
 subst h1 h2
 exact Qrq hR rfl fun w S U ρ vs f hr=>Qlz (n:=1) (fun us f=>Qwt (fun u f=>Xab u f) n us f) vs f hr
def ghC (s:St) : H→Option (St×List Prop)
 | .pack i j e c x xs'=>match s.root i,s.root j with
  | some ⟨T,sz,xs⟩,some Y=>if j=i then none else some (⟨s.sl,(j,none) :: (i,some ⟨T,sz,xs'⟩) :: s.rt,s.us⟩,[xs[e]? = some x,x[c]? = some (.sl j 0 Y.xs.length),Qa1 Y.xs=true,xs.set e (x.set c (.own Y.T Y.sz Y.xs))=xs'])
  | _,_=>none
 | .unpack i j e c x T' sz' ys xs'=>match s.root i with
  | some ⟨T,sz,xs⟩=>if s.us.contains j then none else some (⟨s.sl,(j,some ⟨T',sz',ys⟩) :: (i,some ⟨T,sz,xs'⟩) :: s.rt,j :: s.us⟩,[xs[e]? = some x,x[c]? = some (.own T' sz' ys),0<sz',xs.set e (x.set c (.sl j 0 ys.length))=xs'])
  | none=>none
 | .nil t id T sz=>match s.get t with
  | .lit (.slice none 0 0)=>if s.us.contains id then none else if 0<sz then some ((s.add id ⟨T,sz,[]⟩).put t (.sl id 0 0),[]) else none
  | _=>none
 | .slen t n=>match s.get t with
  | .sl i o len=>some (s.put t (.sl i o n),[len=n])
  | _=>none
 | .own0 i n pre post T2 sz2 xs'=>match s.root i with
  | some ⟨T,sz,xs⟩=>some (⟨s.sl,(i,some ⟨T,sz,xs'⟩) :: s.rt,s.us⟩,[xs=List.replicate n (pre ++ .lit (.slice none 0 0) :: post),List.replicate n (pre ++ .own T2 sz2 [] :: post)=xs'])
  | none=>none
 | .eqr i xs'=>match s.root i with
  | some ⟨T,sz,xs⟩=>some (⟨s.sl,(i,some ⟨T,sz,xs'⟩) :: s.rt,s.us⟩,[xs=xs'])
  | none=>none
 | .own1 i n T2 sz2 xs'=>match s.root i with
  | some ⟨T,sz,xs⟩=>some (⟨s.sl,(i,some ⟨T,sz,xs'⟩) :: s.rt,s.us⟩,[xs=[List.replicate n (.lit (.slice none 0 0))],[List.replicate n (.own T2 sz2 [])]=xs'])
  | none=>none
 | .fgt i e o x xs'=>match s.root i with
  | some ⟨T,sz,xs⟩=>some (s.setR i ⟨T,sz,xs'⟩,[xs[e]? = some x,xs.set e (x.set o .dead)=xs'])
  | none=>none
 | _=>none
theorem Xbx {E:Env} {s s':St} {h:H} {ps:List Prop} (he:ghC s h=some (s',ps)) (hp:Qb0 ps) : Ent E s s':=by
 obtain ⟨sl,rt,us⟩:=s
 unfold ghC at he
 split at he
 ·split at he
  case h_2=>cases he
  rename_i T sz xs Y hR hY
  split at he
  case isTrue=>cases he
  rename_i hij
  cases he
  obtain ⟨h1,h2,h3,h4,_⟩:=hp
  exact Xfn hij hR hY h1 h2 h3 h4
 ·split at he
  case h_2=>cases he
  rename_i T sz xs hR
  split at he
  case isTrue=>cases he
  rename_i hj
  cases he
  obtain ⟨h1,h2,h3,h4,_⟩:=hp
  exact Xbh (by simpa using hj) hR h1 h2 h3 h4
 ·split at he
  case h_2=>cases he
  rename_i ht
  split at he
  case isTrue=>cases he
  rename_i hid
  split at he
  case isFalse=>cases he
  rename_i hz
  cases he
  exact Xhs E _ _ _ _ _ (by simpa using hid) hz ht
 ·rename_i t n
  split at he
  case h_2=>cases he
  rename_i i o len ht
  cases he
  obtain ⟨h1,_⟩:=hp
  subst h1
  rintro a w ⟨χ,hd,hr⟩
  refine ⟨χ,hd,hr.weak (fun t'=>?_) (fun _=>rfl) rfl⟩
  by_cases e:t'=t
  ·subst e;rw [St.get_put_same,ht];exact .inl rfl
  ·rw [St.get_put_ne _ e];exact .inl rfl
 ·split at he
  case h_2=>cases he
  rename_i T sz xs hR
  cases he
  obtain ⟨h1,h2,_⟩:=hp
  exact Xfs hR h1 h2
 ·split at he
  case h_2=>cases he
  rename_i T sz xs hR
  cases he
  obtain ⟨h1,_⟩:=hp
  subst h1
  exact Qrq hR rfl fun w S U ρ vs f hr=>hr
 ·split at he
  case h_2=>cases he
  rename_i T sz xs hR
  cases he
  obtain ⟨h1,h2,_⟩:=hp
  exact Xf2 hR h1 h2
 ·split at he
  case h_2=>cases he
  rename_i T sz xs hR
  cases he
  obtain ⟨h1,h2,_⟩:=hp
  subst h2
  rintro a w ⟨χ,hd,h⟩
  exact ⟨χ,hd,h.forget hR h1⟩
 ·cases he
def isGh:H→Bool
 | .pack .. => true
 | .unpack .. => true
 | .nil .. => true
 | .slen .. => true
 | .own0 .. => true
 | .own1 .. => true
 | .eqr .. => true
 | .fgt .. => true
 | _=>false
def ghs (k:Nat) : List Hn→St→Option (St×List Hn×List Prop)
 | [],s=>some (s,[],[])
 | hn :: r,s=>if hn.k == k && isGh hn.h then match ghC s hn.h with
   | some (s',ps)=>match ghs k r s' with
    | some (s'',r',qs)=>some (s'',r',ps++qs)
    | none=>none
   | none=>none
  else some (s,hn :: r,[])
theorem Qhq {E:Env} {k:Nat} : ∀ {hs hs':List Hn} {s s':St} {ps:List Prop},ghs k hs s=some (s',hs',ps)→Qb0 ps→Ent E s s'
 | [],_,s,s',ps,h,_=>by simp only [ghs] at h;cases h;exact Ent.refl E s
 | hn :: r,hs',s,s',ps,h,hp=>by
  simp only [ghs] at h
  split at h
  ·split at h
   case h_2=>cases h
   rename_i s1 qs hg
   split at h
   case h_2=>cases h
   rename_i s2 r' rs hr
   cases h
   obtain ⟨h1,h2⟩:=Qaq hp
   exact (Xbx hg h1).trans (Qhq hr h2)
  ·cases h;exact Ent.refl E s
def pop (k:Nat) : List Hn→Hn×List Hn
 | []=>(⟨k,.no,none⟩,[])
 | hn :: r=>if hn.k == k then (hn,r) else (⟨k,.no,none⟩,hn :: r)
def Qml (ops:Array Oper) (n:Nat) (o:Oper) (s:St) : Option Bool:=
 match o.guard with
 | none=>some true
 | some (j,b)=>match (ops.toList[j]?).bind (·.dst) with
  | some d=>if d<n then match s.get d with
   | .lit (.bool c)=>some (c == b)
   | .lit _=>some false
   | _=>none
   else none
  | none=>none
theorem Qhb {E:Env} {ops:Array Oper} {o:Oper} {s:St} {b:Bool} (h:Qml ops E.n o s=some b) {a:Act} {w:World} (hr:Rel E s a w) : Region.wanted o (yielded ops a.tmps)=b:=by
 unfold Qml at h
 split at h
 ·rename_i hg;cases h;simp [Region.wanted,hg]
 ·rename_i j b' hg
  split at h
  case h_2=>cases h
  rename_i d hj
  split at h
  case isFalse=>cases h
  rename_i hd
  rw [Array.getElem?_toList] at hj
  split at h
  ·rename_i c hc
   cases h
   have hy:=Qyr hr hj hd hc
   cases c <;> cases b' <;> simp [Region.wanted,hg,hy]
  ·rename_i v hne hv
   cases h
   obtain ⟨χ,hd',h0⟩:=hr
   have:=h0.slots d
   rw [hv] at this
   have hne2 : ∀ c,a.tmps.getD d undef ≠ .bool c:=by
    intro c e
    have:=Qz2 this
    rw [e] at this
    unfold VEq at this
    split at this
    ·rcases this with h | ⟨m,h,_⟩ <;> cases h
    ·exact hne c this.symm
   have hyy:yielded ops a.tmps j=none:=by
    unfold yielded
    rw [hj,Option.bind_some]
    have hsz:d<a.tmps.size:=by rw [h0.size];exact hd
    rw [Array.getD_eq_getD_getElem?,Array.getElem?_eq_getElem hsz,Option.getD_some] at hne2
    rw [Array.getElem?_eq_getElem hsz]
    generalize a.tmps[d]=v2 at hne2
    cases v2 <;> first | rfl | exact absurd rfl (hne2 _)
   simp [Region.wanted,hg,hyy]
  ·cases h
def Qug (Θ:Tys) (P:PK) (n:Nat) (ops:Array Oper) : List Oper→Nat→St→List Hn→Option (Nat×St×List Hn×List Prop)
 | [],k,s,hs=>some (k,s,hs,[])
 | o :: rest,k,s,hs=>match ghs k hs s with
  | some (s1,hs1,ps)=>match Qml ops n o s1 with
   | some true=>match ex1 Θ P n s1 o (pop k hs1).1 with
    | some (s2,qs)=>match Qug Θ P n ops rest (k+1) s2 (pop k hs1).2 with
     | some (k',s3,hs3,rs)=>some (k',s3,hs3,ps++(qs++rs))
     | none=>none
    | none=>none
   | some false=>if okD n o.dst then match Qug Θ P n ops rest (k+1) (s1.putO o.dst (.lit undef)) hs1 with
     | some (k',s3,hs3,rs)=>some (k',s3,hs3,ps++rs)
     | none=>none
    else none
   | none=>none
  | none=>none
theorem Qhc {E:Env} {Θ:Tys} (hΘ:TOK E.P Θ) {ops:Array Oper} {K:St→Prop} : ∀ {l:List Oper} {k k':Nat} {s s':St} {hs hs':List Hn} {ps:List Prop},Qug Θ E.pk E.n ops l k s hs=some (k',s',hs',ps)→Qb0 ps→K s'→RW E ops l s K
 | [],k,k',s,s',hs,hs',ps,h,hp,hk=>by simp only [Qug] at h;cases h;exact Xjt hk
 | o :: rest,k,k',s,s',hs,hs',ps,h,hp,hk=>by
  simp only [Qug] at h
  split at h
  case h_2=>cases h
  rename_i s1 hs1 qs hg
  split at h
  ·rename_i hw
   split at h
   case h_2=>cases h
   rename_i s2 rs he
   split at h
   case h_2=>cases h
   rename_i k3 s3 hs3 ts hr
   cases h
   obtain ⟨h1,h2⟩:=Qaq hp
   obtain ⟨h3,h4⟩:=Qaq h2
   refine Xgj (Qhq hg h1) ?_
   have ho:=Xep hΘ he h3
   have ih:=Qhc hΘ hr h4 hk
   intro a w Q hrel hq
   unfold wpList
   rw [if_pos (Qhb hw hrel)]
   exact .inl (ho a w hrel _ Q (fun a' w' hr'=>ih a' w' Q hr' hq))
  ·rename_i hw
   split at h
   case isFalse=>cases h
   rename_i hd
   split at h
   case h_2=>cases h
   rename_i k3 s3 hs3 ts hr
   cases h
   obtain ⟨h1,h2⟩:=Qaq hp
   refine Xgj (Qhq hg h1) ?_
   have ih:=Qhc hΘ hr h2 hk
   intro a w Q hrel hq
   unfold wpList
   rw [if_neg (by rw [Qhb hw hrel];exact Bool.noConfusion)]
   obtain ⟨χ,hd',h0⟩:=hrel
   exact ih _ w Q ⟨χ,hd',h0.putO hd (Qcs undef)⟩ hq
  ·cases h
def ndOp (s:St) : Operand→Bool
 | .tmp t=>(s.get t).nd
 | _=>true
theorem Qgz {sl sl2:List (Nat×AV)} {rt:List (Nat×Option Qae)} {us:List Nat} (h:Qrx sl sl2) {x:Operand} (hx:ndOp ⟨sl,rt,us⟩ x=true) : Qal ⟨sl2,rt,us⟩ x=Qal ⟨sl,rt,us⟩ x:=by
 cases x with
 | tmp t=>exact Que h rfl hx
 | _=>rfl
def Qjo (s:St) (o:Op) : Bool:=o.operands.toList.all (ndOp s)
theorem Qr8 {sl sl2:List (Nat×AV)} {rt:List (Nat×Option Qae)} {us:List Nat} (pl:Nat→Option (Nat×Nat)) : ∀ (ps:List (Nat×AV)) (cs:List AV),Qmz ⟨sl2,rt,us⟩ pl cs ps=Qmz ⟨sl,rt,us⟩ pl cs ps
 | [],cs=>rfl
 | (i,v) :: r,cs=>by
  have:Qeh ⟨sl2,rt,us⟩=Qeh ⟨sl,rt,us⟩:=by funext c;cases c <;> rfl
  have ih:=fun cs=>Qr8 (sl:=sl) (sl2:=sl2) (rt:=rt) (us:=us) pl r cs
  simp only [Qmz,this,ih]
theorem Xfv {Θ:Tys} {sl sl2:List (Nat×AV)} {rt:List (Nat×Option Qae)} {us:List Nat} (h:Qrx sl sl2) {o:Op} (hn:Qjo ⟨sl,rt,us⟩ o=true) : Qsr Θ ⟨sl2,rt,us⟩ o=Qsr Θ ⟨sl,rt,us⟩ o:=by
 have key : ∀ x∈o.operands,Qal ⟨sl2,rt,us⟩ x=Qal ⟨sl,rt,us⟩ x:=by
  intro x hx
  simp only [Qjo,List.all_eq_true] at hn
  exact Qgz h (hn x (by simpa using hx))
 have mp : ∀ l:List Operand,(∀ x∈l,x∈o.operands)→l.map (Qal ⟨sl2,rt,us⟩)=l.map (Qal ⟨sl,rt,us⟩):=fun l hl=>List.map_congr_left fun x hx=>key x (hl x hx)
 unfold Qsr
 split
 ·rw [key _ (by simp [Op.operands])]
 ·rw [key _ (by simp [Op.operands])]
 ·rw [key _ (by simp [Op.operands]),key _ (by simp [Op.operands]),key _ (by simp [Op.operands])]
 ·rw [key _ (by simp [Op.operands]),key _ (by simp [Op.operands])]
 ·rw [key _ (by simp [Op.operands])]
 ·rw [key _ (by simp [Op.operands])]
 ·rw [key _ (by simp [Op.operands])];rfl
 ·rw [key _ (by simp [Op.operands])];rfl
 ·rw [key _ (by simp [Op.operands])]
 ·rw [key _ (by simp [Op.operands]),key _ (by simp [Op.operands])];rfl
 ·rw [key _ (by simp [Op.operands]),key _ (by simp [Op.operands])]
 ·rename_i t x lo hi
  have h1:lo.map (Qal ⟨sl2,rt,us⟩)=lo.map (Qal ⟨sl,rt,us⟩):=by cases lo with
   | none=>rfl
   | some x=>simp only [Option.map_some];rw [key _ (by simp [Op.operands])]
  have h2:hi.map (Qal ⟨sl2,rt,us⟩)=hi.map (Qal ⟨sl,rt,us⟩):=by cases hi with
   | none=>rfl
   | some x=>simp only [Option.map_some];rw [key _ (by simp [Op.operands])]
  rw [key _ (by simp [Op.operands]),h1,h2];rfl
 ·rw [key _ (by simp [Op.operands])];rfl
 ·rw [key _ (by simp [Op.operands])]
 ·rename_i t ps
  have:Qja ⟨sl2,rt,us⟩ ps=Qja ⟨sl,rt,us⟩ ps:=by
   unfold Qja
   refine List.map_congr_left fun p hp=>?_
   rw [key p.2 (by simp only [Op.operands];simp;exact ⟨p.1,by simpa using hp⟩)]
  unfold Qv3
  rw [this]
  simp only [Qr8 (sl:=sl) (sl2:=sl2)]
 ·rw [mp _ (by intro x hx;simp only [Op.operands];simp at hx ⊢; exact .inr hx)]
 ·rename_i args tys
  split
  ·rename_i x t hx ht
   rw [key x (by simp [Op.operands,Call.operands];rw [← Array.mem_toList_iff,hx];simp)];rfl
  ·rfl
 ·rename_i args tys
  split
  ·rename_i x t hx ht
   rw [key x (by simp [Op.operands,Call.operands];rw [← Array.mem_toList_iff,hx];simp)]
  ·rfl
 ·rename_i args tys
  rw [mp _ (by intro x hx;simpa [Op.operands,Call.operands] using hx)]
 ·rename_i args tys
  rw [mp _ (by intro x hx;simpa [Op.operands,Call.operands] using hx)]
 ·rfl
mutual
theorem Xl5 {sl sl2:List (Nat×AV)} {rt:List (Nat×Option Qae)} {us:List Nat} : ∀ x:AV,out ⟨sl2,rt,us⟩ x=out ⟨sl,rt,us⟩ x
 | .lit _=>rfl
 | .ro _ _=>rfl
 | .rop _ _=>rfl
 | .sl _ _ _=>rfl
 | .ptr _ _ _=>rfl
 | .agg cs=>by have:=Qpw (sl:=sl) (sl2:=sl2) (rt:=rt) (us:=us) cs;simp only [out,this]
 | .fn _ cs=>by have:=Qpw (sl:=sl) (sl2:=sl2) (rt:=rt) (us:=us) cs;simp only [out,this]
 | .dead=>rfl
 | .own _ _ _=>rfl
 | .tup _=>rfl
theorem Qpw {sl sl2:List (Nat×AV)} {rt:List (Nat×Option Qae)} {us:List Nat} : ∀ xs:List AV,Qvs ⟨sl2,rt,us⟩ xs=Qvs ⟨sl,rt,us⟩ xs
 | []=>rfl
 | c :: cs=>by have h1:=Qpw (sl:=sl) (sl2:=sl2) (rt:=rt) (us:=us) cs;have h2:=Xl5 (sl:=sl) (sl2:=sl2) (rt:=rt) (us:=us) c;simp only [Qvs,h1,h2]
end
mutual
theorem Xid {sl sl2:List (Nat×AV)} {rt:List (Nat×Option Qae)} {us:List Nat} {π:List (Nat×Nat)} : ∀ x:AV,Qid ⟨sl2,rt,us⟩ π x=Qid ⟨sl,rt,us⟩ π x
 | .lit _=>rfl
 | .ro _ _=>rfl
 | .rop _ _=>rfl
 | .sl _ _ _=>rfl
 | .ptr _ _ _=>rfl
 | .agg cs=>by have:=Qo8 (sl:=sl) (sl2:=sl2) (rt:=rt) (us:=us) (π:=π) cs;simp only [Qid,this]
 | .fn _ cs=>by have:=Qo8 (sl:=sl) (sl2:=sl2) (rt:=rt) (us:=us) (π:=π) cs;simp only [Qid,this]
 | .dead=>rfl
 | .own _ _ _=>rfl
 | .tup _=>rfl
theorem Qo8 {sl sl2:List (Nat×AV)} {rt:List (Nat×Option Qae)} {us:List Nat} {π:List (Nat×Nat)} : ∀ xs:List AV,Qii ⟨sl2,rt,us⟩ π xs=Qii ⟨sl,rt,us⟩ π xs
 | []=>rfl
 | c :: cs=>by have h1:=Qo8 (sl:=sl) (sl2:=sl2) (rt:=rt) (us:=us) (π:=π) cs;have h2:=Xid (sl:=sl) (sl2:=sl2) (rt:=rt) (us:=us) (π:=π) c;simp only [Qii,h1,h2]
end
theorem Qw7 {sl sl2:List (Nat×AV)} {rt:List (Nat×Option Qae)} {us:List Nat} : ∀ (ρ:List Nat) (rs:List Qae),Qqg ⟨sl,rt,us⟩ ρ rs→Qqg ⟨sl2,rt,us⟩ ρ rs
 | [],[],h=>h
 | [],_ :: _,h=>h.elim
 | _ :: _,[],h=>h.elim
 | i :: ρ,R :: rs,h=>⟨h.1,Qw7 ρ rs h.2⟩
def exV (Θ:Tys) (P:PK) (n:Nat) (s:St) (o:Oper) (d:Nat) (h:Hn) : Option (AV×List Prop):=
  if d<n then (if Qjo s o.op then match h.h with
    | .callV zss res=>match o.op with
      | .call ⟨.value x,args,_⟩=>match Qal s x with
        | .fn f caps=>match Qke s [] (args.toList.map (Qal s)++caps) zss with
          | some (outs,ps,[])=>some ((ovr res h.o).1,Qab P.p f outs res :: (Qa8 res=true) :: ((ovr res h.o).2++ps))
          | _=>none
        | _=>none
      | _=>none
    | .bin r=>match o.op with
      | .binOp op t x y _=>some ((ovr r h.o).1,Qil P.p op t (Qal s x) (Qal s y) r :: (ovr r h.o).2)
      | _=>none
    | .cnv r=>match o.op with
      | .convert src dst x=>some ((ovr r h.o).1,Xb9 P.p src dst (Qal s x) r :: (ovr r h.o).2)
      | .unOp op _ x=>some ((ovr r h.o).1,UnS P.p op (Qal s x) r :: (ovr r h.o).2)
      | .index t x y=>some ((ovr r h.o).1,IdxS P.p t (Qal s x) (Qal s y) r :: (ovr r h.o).2)
      | .slice t x lo hi none=>some ((ovr r h.o).1,CutS P.p t (Qal s x) (lo.map (Qal s)) (hi.map (Qal s)) r :: (ovr r h.o).2)
      | .indexAddr t x y=>some ((ovr r h.o).1,IaS P t (Qal s x) (Qal s y) r :: (ovr r h.o).2)
      | .load t x=>some ((ovr r h.o).1,LdS P t (Qal s x) r :: (ovr r h.o).2)
      | _=>none
    | .xt r=>match o.op with
      | .call ⟨.value x,args,_⟩=>match Qal s x with
        | .fn f []=>match args.toList with
          | [y]=>some ((ovr r h.o).1,ExtS P.p f (Qal s y) r :: (ovr r h.o).2)
          | _=>none
        | _=>none
      | _=>none
    | hh=>match vx Θ s o.op hh with
      | some (r,ps)=>some ((ovr r h.o).1,(ovr r h.o).2++ps)
      | none=>none
    else none) else none
theorem Xjz {E:Env} {Θ:Tys} (hΘ:TOK E.P Θ) {sl:List (Nat×AV)} {rt:List (Nat×Option Qae)} {us:List Nat} {o:Oper} {d:Nat} {hh:H} {ov:Option AV} {r:AV} {ps:List Prop} (ho:o.dst=some d) (hd:d<E.n) (hn:Qjo ⟨sl,rt,us⟩ o.op=true)
    (he:(match vx Θ ⟨sl,rt,us⟩ o.op hh with
      | some (r,ps)=>some ((ovr r ov).1,(ovr r ov).2++ps)
      | none=>none)=some (r,ps)) (hp:Qb0 ps) : ∀ sl2,Qrx sl sl2→Qm5 E o ⟨sl2,rt,us⟩ (St.put ⟨sl2,rt,us⟩ d r):=by
  intro sl2 hle
  split at he
  case h_2=>cases he
  rename_i r0 qs hv
  cases he
  obtain ⟨h1,h2⟩:=Qaq hp
  rw [Qfe h1]
  have:=Qze (E:=E) hΘ (o:=o) (s:=⟨sl2,rt,us⟩) (r:=r0) (by rw [ho];simpa [okD] using hd) (by rw [Xfv hle hn];exact Qzm hv h2)
  rw [ho] at this
  exact this
theorem Qoo {E:Env} {Θ:Tys} (hΘ:TOK E.P Θ) {sl:List (Nat×AV)} {rt:List (Nat×Option Qae)} {us:List Nat} {o:Oper} {d:Nat} {h:Hn} {r:AV} {ps:List Prop} (ho:o.dst=some d) (he:exV Θ E.pk E.n ⟨sl,rt,us⟩ o d h=some (r,ps)) (hp:Qb0 ps) :
  d<E.n∧∀ sl2,Qrx sl sl2→Qm5 E o ⟨sl2,rt,us⟩ (St.put ⟨sl2,rt,us⟩ d r):=by
 unfold exV at he
 split at he
 case isFalse=>cases he
 rename_i hd
 refine ⟨hd,?_⟩
 split at he
 case isFalse=>cases he
 rename_i hn
 split at he
 ·rename_i zss res _
  split at he
  case h_2=>cases he
  rename_i x args tys hop
  split at he
  case h_2=>cases he
  rename_i f caps hx
  split at he
  case h_2=>cases he
  rename_i outs qs hout
  cases he
  obtain ⟨h1,h2,h3⟩:=hp
  obtain ⟨h4,h5⟩:=Qaq h3
  rw [Qfe h4]
  intro sl2 hle
  have key : ∀ y∈o.op.operands,Qal ⟨sl2,rt,us⟩ y=Qal ⟨sl,rt,us⟩ y:=by
   intro y hy
   simp only [Qjo,List.all_eq_true] at hn
   exact Qgz hle (hn y (by simpa using hy))
  have hx2:Qal ⟨sl2,rt,us⟩ x = .fn f caps:=by rw [key x (by rw [hop];simp [Op.operands,Call.operands])];exact hx
  have ha2:args.toList.map (Qal ⟨sl2,rt,us⟩)=args.toList.map (Qal ⟨sl,rt,us⟩):=List.map_congr_left fun y hy=>key y (by rw [hop];simp only [Op.operands,Call.operands];simp at hy ⊢; exact .inr hy)
  have:=Qiq (E:=E) (o:=o) (s:=⟨sl2,rt,us⟩) hop hx2 (by rw [ho];simpa [okD] using hd) (outs:=outs) (by rw [ha2,Qpw (sl:=sl)];exact Qm7 hout h5) h1 (Qs3 _ h2) [] List.nodup_nil (by simp)
  rw [ho,Qun _ _ h2] at this
  exact this
 ·rename_i rr _
  split at he
  case h_2=>cases he
  rename_i op t x y sg hop
  cases he
  obtain ⟨h1,h2⟩:=hp
  rw [Qfe h2]
  intro sl2 hle
  have key : ∀ y∈o.op.operands,Qal ⟨sl2,rt,us⟩ y=Qal ⟨sl,rt,us⟩ y:=by
   intro y hy
   simp only [Qjo,List.all_eq_true] at hn
   exact Qgz hle (hn y (by simpa using hy))
  have:=Xaf (E:=E) (o:=o) (s:=⟨sl2,rt,us⟩) (r:=rr) hop (by rw [ho];simpa [okD] using hd) (by rw [key x (by rw [hop];simp [Op.operands]),key y (by rw [hop];simp [Op.operands])];exact h1)
  rw [ho] at this
  exact this
 ·rename_i rr _
  have key : ∀ sl2,Qrx sl sl2→∀ y∈o.op.operands,Qal ⟨sl2,rt,us⟩ y=Qal ⟨sl,rt,us⟩ y:=by
   intro sl2 hle y hy
   simp only [Qjo,List.all_eq_true] at hn
   exact Qgz hle (hn y (by simpa using hy))
  split at he
  case h_7=>cases he
  ·rename_i src dst x hop
   cases he
   obtain ⟨h1,h2⟩:=hp
   rw [Qfe h2]
   intro sl2 hle
   have:=Qzw (E:=E) (o:=o) (s:=⟨sl2,rt,us⟩) (r:=rr) hop (by rw [ho];simpa [okD] using hd) (by rw [key sl2 hle x (by rw [hop];simp [Op.operands])];exact h1)
   rw [ho] at this
   exact this
  ·rename_i op t x hop
   cases he
   obtain ⟨h1,h2⟩:=hp
   rw [Qfe h2]
   intro sl2 hle
   have:=Xc1 (E:=E) (o:=o) (s:=⟨sl2,rt,us⟩) (r:=rr) hop (by rw [ho];simpa [okD] using hd) (by rw [key sl2 hle x (by rw [hop];simp [Op.operands])];exact h1)
   rw [ho] at this
   exact this
  ·rename_i t x y hop
   cases he
   obtain ⟨h1,h2⟩:=hp
   rw [Qfe h2]
   intro sl2 hle
   have:=Xdm (E:=E) (o:=o) (s:=⟨sl2,rt,us⟩) (r:=rr) hop (by rw [ho];simpa [okD] using hd) (by rw [key sl2 hle x (by rw [hop];simp [Op.operands]),key sl2 hle y (by rw [hop];simp [Op.operands])];exact h1)
   rw [ho] at this
   exact this
  ·rename_i t x lo hi hop
   cases he
   obtain ⟨h1,h2⟩:=hp
   rw [Qfe h2]
   intro sl2 hle
   have kx:=key sl2 hle x (by rw [hop];simp [Op.operands])
   have kl:lo.map (Qal ⟨sl2,rt,us⟩)=lo.map (Qal ⟨sl,rt,us⟩):=by
    cases lo with
    | none=>rfl
    | some y=>simp only [Option.map_some];rw [key sl2 hle y (by rw [hop];simp [Op.operands])]
   have kh:hi.map (Qal ⟨sl2,rt,us⟩)=hi.map (Qal ⟨sl,rt,us⟩):=by
    cases hi with
    | none=>rfl
    | some y=>simp only [Option.map_some];rw [key sl2 hle y (by rw [hop];simp [Op.operands])]
   have:=Qzv (E:=E) (o:=o) (s:=⟨sl2,rt,us⟩) (r:=rr) hop (by rw [ho];simpa [okD] using hd) (by rw [kx,kl,kh];exact h1)
   rw [ho] at this
   exact this
  ·rename_i t x y hop
   cases he
   obtain ⟨h1,h2⟩:=hp
   rw [Qfe h2]
   intro sl2 hle
   have:=Xbv (E:=E) (o:=o) (s:=⟨sl2,rt,us⟩) (r:=rr) hop (by rw [ho];simpa [okD] using hd) (by rw [key sl2 hle x (by rw [hop];simp [Op.operands]),key sl2 hle y (by rw [hop];simp [Op.operands])];exact h1)
   rw [ho] at this
   exact this
  ·rename_i t x hop
   cases he
   obtain ⟨h1,h2⟩:=hp
   rw [Qfe h2]
   intro sl2 hle
   have:=Xc2 (E:=E) (o:=o) (s:=⟨sl2,rt,us⟩) (r:=rr) hop (by rw [ho];simpa [okD] using hd) (by rw [key sl2 hle x (by rw [hop];simp [Op.operands])];exact h1)
   rw [ho] at this
   exact this
 ·rename_i rr _
  split at he
  case h_2=>cases he
  rename_i x args tys hop
  split at he
  case h_2=>cases he
  rename_i f hx
  split at he
  case h_2=>cases he
  rename_i y ha
  cases he
  obtain ⟨h1,h2⟩:=hp
  rw [Qfe h2]
  have e1:args = #[y]:=by rw [← Array.toArray_toList (xs:=args),ha]
  subst e1
  intro sl2 hle
  have key : ∀ y∈o.op.operands,Qal ⟨sl2,rt,us⟩ y=Qal ⟨sl,rt,us⟩ y:=by
   intro y hy
   simp only [Qjo,List.all_eq_true] at hn
   exact Qgz hle (hn y (by simpa using hy))
  have:=Xe3 (E:=E) (o:=o) (s:=⟨sl2,rt,us⟩) (r:=rr) hop (by rw [key x (by rw [hop];simp [Op.operands,Call.operands])];exact hx) (by rw [ho];simpa [okD] using hd) (by rw [key y (by rw [hop];simp [Op.operands,Call.operands])];exact h1)
  rw [ho] at this
  exact this
 ·exact Xjz hΘ ho hd hn he hp
def Qtx (Θ:Tys) (P:PK) (n:Nat) (ops:Array Oper) (sl:List (Nat×AV)) (rt:List (Nat×Option Qae)) (us:List Nat) : List Oper→Nat→List (Nat×AV)→List Hn→Option (Nat×List (Nat×AV)×List Hn×List Prop)
 | [],k,done,hs=>some (k,done,hs,[])
 | o :: rest,k,done,hs=>match o.dst with
  | some d=>match Qml ops n o ⟨Qc6 ops.toList done o++(Qfx ops.toList++sl),rt,us⟩ with
   | some true=>match exV Θ P n ⟨Qc6 ops.toList done o++(Qfx ops.toList++sl),rt,us⟩ o d (pop k hs).1 with
    | some (r,ps)=>match Qtx Θ P n ops sl rt us rest (k+1) ((d,r) :: done) (pop k hs).2 with
     | some (k',rd,hs',qs)=>some (k',rd,hs',ps++qs)
     | none=>none
    | none=>none
   | some false=>if d<n then Qtx Θ P n ops sl rt us rest (k+1) ((d,.lit undef) :: done) hs else none
   | none=>none
  | none=>none
theorem Qqr {E:Env} {ops:Array Oper} {o:Oper} {sl sl2:List (Nat×AV)} {rt:List (Nat×Option Qae)} {us:List Nat} {b:Bool} (h:Qml ops E.n o ⟨sl,rt,us⟩=some b) (hle:Qrx sl sl2) : Qml ops E.n o ⟨sl2,rt,us⟩=some b:=by
 unfold Qml at h ⊢
 split at h
 ·exact h
 ·split at h
  case h_2=>cases h
  rename_i d hj
  split at h
  case isFalse=>cases h
  rename_i hd
  try rw [if_pos hd]
  split at h
  ·rename_i c hc
   rw [Que hle hc rfl];exact h
  ·rename_i v hne hv
   rw [Que hle hv rfl]
   split
   ·rename_i c hc;cases hc;exact (hne _ rfl).elim
   ·exact h
   ·rename_i h1 h2;exact absurd rfl (h2 _)
  ·cases h
theorem Qvm {E:Env} {ops:Array Oper} {o:Oper} {sl:List (Nat×AV)} {rt:List (Nat×Option Qae)} {us:List Nat} {d:Nat} {r:AV} (hw:Qml ops E.n o ⟨sl,rt,us⟩=some true) (h : ∀ sl2,Qrx sl sl2→Qm5 E o ⟨sl2,rt,us⟩ (St.put ⟨sl2,rt,us⟩ d r)) : VTo E ops o sl rt us d r:=by
 intro sl2 hle a w Q K hr hk
 rw [if_pos (Qhb (Qqr hw hle) hr)]
 exact .inl (h sl2 hle a w hr K Q hk)
theorem Qzs {E:Env} {ops:Array Oper} {o:Oper} {sl:List (Nat×AV)} {rt:List (Nat×Option Qae)} {us:List Nat} {d:Nat} (ho:o.dst=some d) (hd:d<E.n) (hw:Qml ops E.n o ⟨sl,rt,us⟩=some false) : VTo E ops o sl rt us d (.lit undef):=by
 intro sl2 hle a w Q K hr hk
 rw [if_neg (by rw [Qhb (Qqr hw hle) hr];exact Bool.noConfusion)]
 rw [ho]
 obtain ⟨χ,hd',h0⟩:=hr
 exact hk _ _ ⟨χ,hd',h0.put hd (Qcs undef)⟩
theorem Qle {E:Env} {Θ:Tys} (hΘ:TOK E.P Θ) {ops:Array Oper} {sl:List (Nat×AV)} {rt:List (Nat×Option Qae)} {us:List Nat} : ∀ {l:List Oper} {k k':Nat} {done rd:List (Nat×AV)} {hs hs':List Hn} {ps:List Prop},Qtx Θ E.pk E.n ops sl rt us l k done hs=some (k',rd,hs',ps)→Qb0 ps→DWt E ops sl rt us l done rd
 | [],k,k',done,rd,hs,hs',ps,h,hp=>by simp only [Qtx] at h;cases h;exact Xl1
 | o :: rest,k,k',done,rd,hs,hs',ps,h,hp=>by
  simp only [Qtx] at h
  split at h
  case h_2=>cases h
  rename_i d hd
  split at h
  ·rename_i hw
   split at h
   case h_2=>cases h
   rename_i r qs hv
   split at h
   case h_2=>cases h
   rename_i hr
   cases h
   obtain ⟨h1,h2⟩:=Qaq hp
   exact Xci hd (Qvm hw (Qoo hΘ hd hv h1).2) (Qle hΘ hr h2)
  ·rename_i hw
   split at h
   case isFalse=>cases h
   rename_i hdn
   exact Xci hd (Qzs hd hdn hw) (Qle hΘ h hp)
  ·cases h
def Xet:List (Nat×Option Qae)×List Nat→List (Nat×Qae)→List (Nat×Option Qae)×List Nat
 | X,[]=>X
 | X,(i,R) :: l=>Xet ((i,some R) :: X.1,i :: X.2) l
theorem Qlr {sl:List (Nat×AV)} : ∀ (l:List (Nat×Qae)) (rt:List (Nat×Option Qae)) (us:List Nat),St.addL ⟨sl,rt,us⟩ l=⟨sl,(Xet (rt,us) l).1,(Xet (rt,us) l).2⟩
 | [],rt,us=>rfl
 | (i,R) :: l,rt,us=>Qlr l _ _
def exM (Θ:Tys) (P:PK) (n:Nat) (s:St) (o:Oper) (d:Nat) (h:Hn) : Option (AV×(List (Nat×Option Qae)×List Nat)×List Prop):=
 if d<n then if Qjo s o.op then match h.h with
  | .callR zss res ids x' l=>if frB s.us ids then match o.op with
   | .call ⟨.value x,args,_⟩=>match Qal s x with
    | .fn f caps=>match Qke s [] (args.toList.map (Qal s)++caps) zss with
     | some (outs,ps,[])=>some (x',Xet (s.rt,s.us) l,Qab P.p f outs res :: (Qez res=true) :: ((rtf res ids).1=x') :: ((rtf res ids).2.1=l) :: ps)
     | _=>none
    | _=>none
   | _=>none
   else none
  | .call zss res ids=>if frB s.us ids then match o.op with
   | .call ⟨.value x,args,_⟩=>match Qal s x with
    | .fn f caps=>match Qke s [] (args.toList.map (Qal s)++caps) zss with
     | some (outs,ps,[])=>some ((ovr (rtf res ids).1 h.o).1,Xet (s.rt,s.us) (rtf res ids).2.1,Qab P.p f outs res :: (Qez res=true) :: ((ovr (rtf res ids).1 h.o).2++ps))
     | _=>none
    | _=>none
   | _=>none
   else none
  | .callX ρ ks rs rs' zss res ids x' l=>if ndB ρ && (ks.length == ρ.length) && Qpv rs rs' && frB s.us ids then match o.op with
   | .call ⟨.value x,args,_⟩=>match Qal s x with
    | .fn f caps=>match Qke s ρ.zipIdx (args.toList.map (Qal s)++caps) zss with
     | some (outs,ps,[])=>some (x',Xet (Qk0 ρ ks rs'++s.rt,s.us) l,Qaw P f rs outs ks rs' res :: Qqg s ρ rs :: Xl0 rs :: Xbb rs rs' :: ((rtf (Qe3 (Qm0 ρ ks) res) ids).1=x') :: ((rtf (Qe3 (Qm0 ρ ks) res) ids).2.1=l) :: ps)
     | _=>none
    | _=>none
   | _=>none
   else none
  | .callO i T sz ks cx cy zss res x'=>match exO P s o i T sz ks cx cy zss res x' with
   | some (rt,ps)=>some (x',(rt,s.us),ps)
   | none=>none
  | .callS res ids x' l=>if frB s.us ids then match o.op with
   | .call ⟨.value x,args,_⟩=>match Qal s x with
    | .fn f caps=>some (x',Xet (s.rt,s.us) l,[Qab P.p f (args.toList.map (Qal s)++caps) res,Qeq (args.toList.map (Qal s)++caps)=true,(rtf res ids).1=x',(rtf res ids).2.1=l])
    | _=>none
   | _=>none
   else none
  | .api=>none
  | .app id zs=>if frB s.us [id] then match o.op with
   | .call ⟨.builtin .append,args,tys⟩=>match args.toList,tys.toList with
    | [x,y],[t,t']=>if t=t' then match Θ.lookup t with
     | some ⟨_,_,.slice el,_⟩=>match Θ.lookup el with
      | some te=>if zOK te then match Qpc s el te.sz (Qal s x),Qpd s te.sz (Qal s y) with
       | some (xs,k),some ys=>some (.sl id 0 zs.length,(((s.killO k).add id ⟨el,te.sz,zs⟩).rt,((s.killO k).add id ⟨el,te.sz,zs⟩).us),[xs++ys=zs,ys.all (fun r=>r.all AV.plain)=true,zs.length * te.bytes≤140737488355328,zs.length≤140737488355328])
       | _,_=>none
       else none
      | none=>none
     | _=>none
     else none
    | _,_=>none
   | _=>none
   else none
  | hh=>match idOf hh with
   | some id=>if frB s.us [id] then match Xko Θ s o.op hh id with
    | some (R,r,ps)=>some ((ovr r h.o).1,((id,some (Qkg R hh).1) :: s.rt,id :: s.us),(Qkg R hh).2++((ovr r h.o).2++ps))
    | none=>none
    else none
   | none=>none
  else none
 else none
theorem Xf5 {Θ:Tys} {sl sl2:List (Nat×AV)} {rt:List (Nat×Option Qae)} {us:List Nat} (h:Qrx sl sl2) {o:Op} (hn:Qjo ⟨sl,rt,us⟩ o=true) (id:Nat) : Qsn Θ ⟨sl2,rt,us⟩ o id=Qsn Θ ⟨sl,rt,us⟩ o id:=by
 have key : ∀ x∈o.operands,Qal ⟨sl2,rt,us⟩ x=Qal ⟨sl,rt,us⟩ x:=by
  intro x hx
  simp only [Qjo,List.all_eq_true] at hn
  exact Qgz h (hn x (by simpa using hx))
 have hok:Qeh ⟨sl2,rt,us⟩=Qeh ⟨sl,rt,us⟩:=by funext c;cases c <;> rfl
 unfold Qsn
 split
 ·rfl
 ·rw [key _ (by simp [Op.operands]),hok]
 ·rw [key _ (by simp [Op.operands]),key _ (by simp [Op.operands])]
 ·rename_i t n ps
  have:Qja ⟨sl2,rt,us⟩ ps=Qja ⟨sl,rt,us⟩ ps:=by
   unfold Qja
   refine List.map_congr_left fun p hp=>?_
   rw [key p.2 (by simp only [Op.operands];simp;exact ⟨p.1,by simpa using hp⟩)]
  rw [this,hok]
  simp only [Qr8 (sl:=sl) (sl2:=sl2)]
 ·rfl
theorem Qzq {sl sl2:List (Nat×AV)} {rt:List (Nat×Option Qae)} {us:List Nat} {i:Nat} {ks:List Nat} : ∀ (cx:List AV) (k:Nat),Qul ⟨sl2,rt,us⟩ i ks k cx=Qul ⟨sl,rt,us⟩ i ks k cx
 | [],_=>rfl
 | c :: cs,k=>by
  simp only [Qul,Qzq (sl:=sl) (sl2:=sl2) cs (k+1)]
  rfl
theorem Xax {E:Env} {sl sl2:List (Nat×AV)} {rt:List (Nat×Option Qae)} {us:List Nat} (hle:Qrx sl sl2) {o:Oper} (hn:Qjo ⟨sl,rt,us⟩ o.op=true) {i T sz:Nat} {ks:List Nat} {cx cy:List AV} {zss:List (List (List AV))} {res x':AV} {rt':List (Nat×Option Qae)} {ps:List Prop} (hd:okD E.n o.dst=true) (he:exO E.pk ⟨sl,rt,us⟩ o i T sz ks cx cy zss res x'=some (rt',ps)) (hp:Qb0 ps) : Qm5 E o ⟨sl2,rt,us⟩ (St.putO ⟨sl2,rt',us⟩ o.dst x'):=by
 have key : ∀ x∈o.op.operands,Qal ⟨sl2,rt,us⟩ x=Qal ⟨sl,rt,us⟩ x:=by
  intro x hx
  simp only [Qjo,List.all_eq_true] at hn
  exact Qgz hle (hn x (by simpa using hx))
 unfold exO at he
 split at he
 case h_2=>cases he
 rename_i x args tys hop
 split at he
 case h_2=>cases he
 rename_i f caps hx
 split at he
 case h_2=>cases he
 rename_i outs qs hout
 split at he
 case isFalse=>cases he
 rename_i hok
 cases he
 obtain ⟨h1,h2,h3,h4,h5,h6,h7⟩:=hp
 have hx2:Qal ⟨sl2,rt,us⟩ x = .fn f caps:=by rw [key x (by rw [hop];simp [Op.operands,Call.operands])];exact hx
 have ha2:args.toList.map (Qal ⟨sl2,rt,us⟩)=args.toList.map (Qal ⟨sl,rt,us⟩):=List.map_congr_left fun y hy=>key y (by rw [hop];simp only [Op.operands,Call.operands];simp at hy ⊢; exact .inr hy)
 have:=Qt3 (E:=E) (s:=⟨sl2,rt,us⟩) hop hx2 hd h2 (by rw [Qzq (sl:=sl)];exact hok) h3 h4 (outs:=outs) (by rw [ha2,Qo8 (sl:=sl)];exact Qfz _ _ _ _ _ hout h7) h1 h6
 rw [h5] at this
 exact this
theorem Qws {E:Env} {Θ:Tys} (hΘ:TOK E.P Θ) {sl:List (Nat×AV)} {rt:List (Nat×Option Qae)} {us:List Nat} {o:Oper} {d:Nat} {h:Hn} {r:AV} {Y:List (Nat×Option Qae)×List Nat} {ps:List Prop} (ho:o.dst=some d) (he:exM Θ E.pk E.n ⟨sl,rt,us⟩ o d h=some (r,Y,ps)) (hp:Qb0 ps) :
  ∀ sl2,Qrx sl sl2→Qm5 E o ⟨sl2,rt,us⟩ ⟨(d,r) :: sl2,Y.1,Y.2⟩:=by
 unfold exM at he
 split at he
 case isFalse=>cases he
 rename_i hd
 split at he
 case isFalse=>cases he
 rename_i hn
 split at he
 ·rename_i zss res ids x' l _
  split at he
  case isFalse=>cases he
  rename_i hfr
  split at he
  case h_2=>cases he
  rename_i x args tys hop
  split at he
  case h_2=>cases he
  rename_i f caps hx
  split at he
  case h_2=>cases he
  rename_i outs qs hout
  cases he
  obtain ⟨h1,h2,h3,h4,h5⟩:=hp
  intro sl2 hle
  have key : ∀ y∈o.op.operands,Qal ⟨sl2,rt,us⟩ y=Qal ⟨sl,rt,us⟩ y:=by
   intro y hy
   simp only [Qjo,List.all_eq_true] at hn
   exact Qgz hle (hn y (by simpa using hy))
  have hx2:Qal ⟨sl2,rt,us⟩ x = .fn f caps:=by rw [key x (by rw [hop];simp [Op.operands,Call.operands])];exact hx
  have ha2:args.toList.map (Qal ⟨sl2,rt,us⟩)=args.toList.map (Qal ⟨sl,rt,us⟩):=List.map_congr_left fun y hy=>key y (by rw [hop];simp only [Op.operands,Call.operands];simp at hy ⊢; exact .inr hy)
  obtain ⟨hi1,hi2⟩:=Qf4 hfr
  have:=Qiq (E:=E) (o:=o) (s:=⟨sl2,rt,us⟩) hop hx2 (by rw [ho];simpa [okD] using hd) (outs:=outs) (by rw [ha2,Qpw (sl:=sl)];exact Qm7 hout h5) h1 h2 ids hi1 hi2
  rw [ho,h3,h4,Qlr] at this
  exact this
 ·rename_i zss res ids _
  split at he
  case isFalse=>cases he
  rename_i hfr
  split at he
  case h_2=>cases he
  rename_i x args tys hop
  split at he
  case h_2=>cases he
  rename_i f caps hx
  split at he
  case h_2=>cases he
  rename_i outs qs hout
  cases he
  obtain ⟨h1,h2,h3⟩:=hp
  obtain ⟨h4,h5⟩:=Qaq h3
  rw [Qfe h4]
  intro sl2 hle
  have key : ∀ y∈o.op.operands,Qal ⟨sl2,rt,us⟩ y=Qal ⟨sl,rt,us⟩ y:=by
   intro y hy
   simp only [Qjo,List.all_eq_true] at hn
   exact Qgz hle (hn y (by simpa using hy))
  have hx2:Qal ⟨sl2,rt,us⟩ x = .fn f caps:=by rw [key x (by rw [hop];simp [Op.operands,Call.operands])];exact hx
  have ha2:args.toList.map (Qal ⟨sl2,rt,us⟩)=args.toList.map (Qal ⟨sl,rt,us⟩):=List.map_congr_left fun y hy=>key y (by rw [hop];simp only [Op.operands,Call.operands];simp at hy ⊢; exact .inr hy)
  obtain ⟨hi1,hi2⟩:=Qf4 hfr
  have:=Qiq (E:=E) (o:=o) (s:=⟨sl2,rt,us⟩) hop hx2 (by rw [ho];simpa [okD] using hd) (outs:=outs) (by rw [ha2,Qpw (sl:=sl)];exact Qm7 hout h5) h1 h2 ids hi1 hi2
  rw [ho,Qlr] at this
  exact this
 ·rename_i ρ ks rs rs' zss res ids x' l _
  split at he
  case isFalse=>cases he
  rename_i hf
  simp only [Bool.and_eq_true,beq_iff_eq] at hf
  obtain ⟨⟨⟨f1,f2⟩,f3⟩,f4⟩:=hf
  split at he
  case h_2=>cases he
  rename_i x args tys hop
  split at he
  case h_2=>cases he
  rename_i f caps hx
  split at he
  case h_2=>cases he
  rename_i outs qs hout
  cases he
  obtain ⟨h1,h2,h3,h4,h5,h6,h7⟩:=hp
  intro sl2 hle
  have key : ∀ y∈o.op.operands,Qal ⟨sl2,rt,us⟩ y=Qal ⟨sl,rt,us⟩ y:=by
   intro y hy
   simp only [Qjo,List.all_eq_true] at hn
   exact Qgz hle (hn y (by simpa using hy))
  have hx2:Qal ⟨sl2,rt,us⟩ x = .fn f caps:=by rw [key x (by rw [hop];simp [Op.operands,Call.operands])];exact hx
  have ha2:args.toList.map (Qal ⟨sl2,rt,us⟩)=args.toList.map (Qal ⟨sl,rt,us⟩):=List.map_congr_left fun y hy=>key y (by rw [hop];simp only [Op.operands,Call.operands];simp at hy ⊢; exact .inr hy)
  have:=Qpy (E:=E) (s:=⟨sl2,rt,us⟩) hop hx2 (by rw [ho];simpa [okD] using hd) (Qlh f1) (Qw7 (sl:=sl) _ _ h2) (Qv5 h3) f2 f3 h4 (outs:=outs) (by rw [ha2,Qo8 (sl:=sl)];exact Qfz _ _ _ _ _ hout h7) h1 ids (Qf4 f4).1 (Qf4 f4).2
  rw [h5,h6,ho] at this
  simp only [St.back] at this
  rw [Qlr] at this
  exact this
 ·rename_i i T sz ks cx cy zss res x' _
  split at he
  case h_2=>cases he
  rename_i rt' qs hO
  cases he
  intro sl2 hle
  have:=Xax (E:=E) hle hn (by rw [ho];simpa [okD] using hd) hO hp
  rw [ho] at this
  exact this
 ·rename_i res ids x' l _
  split at he
  case isFalse=>cases he
  rename_i hfr
  split at he
  case h_2=>cases he
  rename_i x args tys hop
  split at he
  case h_2=>cases he
  rename_i f caps hx
  cases he
  obtain ⟨h1,h2,h3,h4,_⟩:=hp
  intro sl2 hle
  have key : ∀ y∈o.op.operands,Qal ⟨sl2,rt,us⟩ y=Qal ⟨sl,rt,us⟩ y:=by
   intro y hy
   simp only [Qjo,List.all_eq_true] at hn
   exact Qgz hle (hn y (by simpa using hy))
  have hx2:Qal ⟨sl2,rt,us⟩ x = .fn f caps:=by rw [key x (by rw [hop];simp [Op.operands,Call.operands])];exact hx
  have ha2:args.toList.map (Qal ⟨sl2,rt,us⟩)=args.toList.map (Qal ⟨sl,rt,us⟩):=List.map_congr_left fun y hy=>key y (by rw [hop];simp only [Op.operands,Call.operands];simp at hy ⊢; exact .inr hy)
  obtain ⟨hi1,hi2⟩:=Qf4 hfr
  have:=Qtg (E:=E) (o:=o) (s:=⟨sl2,rt,us⟩) hop hx2 (by rw [ho];simpa [okD] using hd) (by rw [ha2];exact h2) (by rw [ha2];exact h1) ids hi1 hi2
  rw [ho,h3,h4,Qlr] at this
  exact this
 ·cases he
 ·rename_i id zs _
  split at he
  case isFalse=>cases he
  rename_i hf
  split at he
  case h_2=>cases he
  rename_i args tys hop
  split at he
  case h_2=>cases he
  rename_i x y t t' ha ht
  split at he
  case isFalse=>cases he
  rename_i htt
  subst htt
  split at he
  case h_2=>cases he
  rename_i sz by_ el ze hti
  split at he
  case h_2=>cases he
  rename_i te hte
  split at he
  case isFalse=>cases he
  rename_i hz
  split at he
  case h_2=>cases he
  rename_i xs k ys hx hy
  cases he
  obtain ⟨h1,h2,h3,h4,_⟩:=hp
  have e1:args = #[x,y]:=by rw [← Array.toArray_toList (xs:=args),ha]
  have e2:tys = #[t,t]:=by rw [← Array.toArray_toList (xs:=tys),ht]
  subst e1;subst e2;subst h1
  intro sl2 hle
  have key : ∀ y∈o.op.operands,Qal ⟨sl2,rt,us⟩ y=Qal ⟨sl,rt,us⟩ y:=by
   intro y hy
   simp only [Qjo,List.all_eq_true] at hn
   exact Qgz hle (hn y (by simpa using hy))
  have kx:Qal ⟨sl2,rt,us⟩ x=Qal ⟨sl,rt,us⟩ x:=key x (by rw [hop];simp [Op.operands,Call.operands])
  have ky:Qal ⟨sl2,rt,us⟩ y=Qal ⟨sl,rt,us⟩ y:=key y (by rw [hop];simp [Op.operands,Call.operands])
  rw [List.length_append] at h3 h4 ⊢
  have:=Xa5 (E:=E) (s:=⟨sl2,rt,us⟩) hΘ id ((Qf4 hf).2 id (by simp)) (by rw [ho];simpa [okD] using hd) hop hti hte hz (by rw [kx];exact hx) (by rw [ky];exact hy) (fun r hr=>by rw [List.all_eq_true] at h2;exact h2 r hr) h3 h4
  rw [ho] at this
  cases k <;> exact this
 ·split at he
  case h_2=>cases he
  rename_i id hid
  split at he
  case isFalse=>cases he
  rename_i hfr
  split at he
  case h_2=>cases he
  rename_i R r0 qs hnw
  cases he
  obtain ⟨h1,h2⟩:=Qaq hp
  obtain ⟨h3,h4⟩:=Qaq h2
  rw [Qt5 h1,Qfe h3]
  intro sl2 hle
  have hev:=Qtk hnw h4
  have:=Qz9 hΘ (o:=o) (s:=⟨sl2,rt,us⟩) id ((Qf4 hfr).2 id (by simp)) (by rw [ho];simpa [okD] using hd) (by rw [Xf5 hle hn];exact hev)
  rw [ho] at this
  exact this
def Xgy:H→Bool
 | .callR _ _ _ _ _=>true
 | .call _ _ _=>true
 | .callX _ _ _ _ _ _ _ _ _=>true
 | .callS _ _ _ _=>true
 | .callO .. => true
 | .nwc _=>true
 | .new _=>true
 | .nw _ _=>true
 | .api=>true
 | .app _ _=>true
 | _=>false
def msOf (k m:Nat) (hs:List Hn) : List Nat:=(List.range m).filter fun i=>hs.any fun h=>h.k == k+i && Xgy h.h
def insN (l:List Nat) : List Nat→List Nat
 | []=>l
 | x :: r=>insN (if l.contains x then l else x :: l) r
def Qwf:List Oper→List (List Nat)→List (List Nat)
 | [],A=>A
 | o :: r,A=>Qwf r (A++[(Qbn o).foldl (fun l e=>insN l (Qqc A e)) (insN [] (Qbn o))])
def Qjr (Θ:Tys) (P:PK) (n:Nat) (ops:Array Oper) (msk sl:List (Nat×AV)) (Ms:List Nat) : List Oper→Nat→Nat→List (Nat×Option Qae)×List Nat→List (Nat×AV)→Rts→List Hn→Option (Nat×List (Nat×AV)×Rts×List Hn×List Prop)
 | [],i,k,X,done,R,hs=>some (k,done,R,hs,[])
 | o :: rest,i,k,X,done,R,hs=>match o.dst with
  | some d=>match Qml ops n o ⟨Qc6 ops.toList done o++(msk++sl),X.1,X.2⟩ with
   | some true=>if Ms.contains i then match exM Θ P n ⟨Qc6 ops.toList done o++(msk++sl),X.1,X.2⟩ o d (pop k hs).1 with
     | some (r,Y,ps)=>match Qjr Θ P n ops msk sl Ms rest (i+1) (k+1) Y ((d,r) :: done) (R++[Y]) (pop k hs).2 with
      | some (k',rd,R',hs',qs)=>some (k',rd,R',hs',ps++qs)
      | none=>none
     | none=>none
    else match exV Θ P n ⟨Qc6 ops.toList done o++(msk++sl),X.1,X.2⟩ o d (pop k hs).1 with
     | some (r,ps)=>match Qjr Θ P n ops msk sl Ms rest (i+1) (k+1) X ((d,r) :: done) R (pop k hs).2 with
      | some (k',rd,R',hs',qs)=>some (k',rd,R',hs',ps++qs)
      | none=>none
     | none=>none
   | some false=>if Ms.contains i then none else if d<n then Qjr Θ P n ops msk sl Ms rest (i+1) (k+1) X ((d,.lit undef) :: done) R hs else none
   | none=>none
  | none=>none
theorem Xd5 {E:Env} {ops:Array Oper} {o:Oper} {sl:List (Nat×AV)} {X Y:List (Nat×Option Qae)×List Nat} {d:Nat} {r:AV} (hw:Qml ops E.n o ⟨sl,X.1,X.2⟩=some true) (h : ∀ sl2,Qrx sl sl2→Qm5 E o ⟨sl2,X.1,X.2⟩ ⟨(d,r) :: sl2,Y.1,Y.2⟩) : STo E ops o sl X Y d r:=by
 intro sl2 hle a w Q K hr hk
 rw [if_pos (Qhb (Qqr hw hle) hr)]
 exact .inl (h sl2 hle a w hr K Q hk)
theorem Qih {E:Env} {Θ:Tys} (hΘ:TOK E.P Θ) {ops:Array Oper} {msk sl:List (Nat×AV)} {Ms:List Nat} : ∀ {l:List Oper} {i k k':Nat} {X:List (Nat×Option Qae)×List Nat} {done rd:List (Nat×AV)} {R R':Rts} {hs hs':List Hn} {ps:List Prop} {hd:List Oper},Qjr Θ E.pk E.n ops msk sl Ms l i k X done R hs=some (k',rd,R',hs',ps)→Qb0 ps→hd.length=i→MWs E ops msk sl Ms hd done R X→∃ X',MWs E ops msk sl Ms (hd++l) rd R' X'
 | [],i,k,k',X,done,rd,R,R',hs,hs',ps,hd,h,hp,hi,hm=>by simp only [Qjr] at h;cases h;exact ⟨X,by rw [List.append_nil];exact hm⟩
 | o :: rest,i,k,k',X,done,rd,R,R',hs,hs',ps,hd,h,hp,hi,hm=>by
  simp only [Qjr] at h
  split at h
  case h_2=>cases h
  rename_i d hdst
  have hcat:hd++o :: rest=(hd++[o])++rest:=by simp
  split at h
  ·rename_i hw
   split at h
   ·rename_i hM
    split at h
    case h_2=>cases h
    rename_i r Y qs hv
    split at h
    case h_2=>cases h
    rename_i hr
    cases h
    obtain ⟨h1,h2⟩:=Qaq hp
    rw [hcat]
    exact Qih hΘ hr h2 (by simp [hi]) (MWs.mem hm hdst (by rw [hi];exact hM) (Xd5 hw (Qws hΘ hdst hv h1)))
   ·rename_i hM
    split at h
    case h_2=>cases h
    rename_i r qs hv
    split at h
    case h_2=>cases h
    rename_i hr
    cases h
    obtain ⟨h1,h2⟩:=Qaq hp
    rw [hcat]
    exact Qih hΘ hr h2 (by simp [hi]) (MWs.val hm hdst (by rw [hi];simpa using hM) (Qvm hw (Qoo hΘ hdst hv h1).2))
  ·rename_i hw
   split at h
   ·cases h
   rename_i hM
   split at h
   case isFalse=>cases h
   rename_i hdn
   rw [hcat]
   exact Qih hΘ h hp (by simp [hi]) (MWs.val hm hdst (by rw [hi];simpa using hM) (Qzs hdst hdn hw))
  ·cases h
def Qxx (Θ:Tys) (P:PK) (n:Nat) (ops:Array Oper) (msk sl:List (Nat×AV)) (Ms:List Nat) (R:Rts) (rd:List (Nat×AV)) : List (Nat×Nat)→Nat→List Hn→Option (Nat×List Hn×List Prop)
 | [],k,hs=>some (k,hs,[])
 | (i,c) :: rest,k,hs=>if Ms.contains i then none else match ops.toList[i]? with
  | some o=>match o.dst with
   | some d=>match rd.lookup d with
    | some r=>match Qml ops n o ⟨Qc6 ops.toList rd o++(msk++sl),(rts R c).1,(rts R c).2⟩ with
     | some true=>match exV Θ P n ⟨Qc6 ops.toList rd o++(msk++sl),(rts R c).1,(rts R c).2⟩ o d (pop k hs).1 with
      | some (r2,ps)=>match Qxx Θ P n ops msk sl Ms R rd rest (k+1) (pop k hs).2 with
       | some (k',hs',qs)=>some (k',hs',(r2=r) :: (ps++qs))
       | none=>none
      | none=>none
     | some false=>if d<n then match Qxx Θ P n ops msk sl Ms R rd rest (k+1) hs with
       | some (k',hs',qs)=>some (k',hs',(AV.lit undef=r) :: qs)
       | none=>none
      else none
     | none=>none
    | none=>none
   | none=>none
  | none=>none
theorem Qlg {E:Env} {Θ:Tys} (hΘ:TOK E.P Θ) {ops:Array Oper} {msk sl:List (Nat×AV)} {Ms:List Nat} {R:Rts} {rd:List (Nat×AV)} : ∀ {xs:List (Nat×Nat)} {k k':Nat} {hs hs':List Hn} {ps:List Prop},Qxx Θ E.pk E.n ops msk sl Ms R rd xs k hs=some (k',hs',ps)→Qb0 ps →
    ∀ p∈xs,Ms.contains p.1=false∧∀ o,ops.toList[p.1]? = some o→∃ d r,o.dst=some d∧rd.lookup d=some r∧STo E ops o (Qc6 ops.toList rd o++(msk++sl)) (rts R p.2) (rts R p.2) d r
  | [],k,k',hs,hs',ps,h,hp,p,hx=>by cases hx
  | (i,c) :: rest,k,k',hs,hs',ps,h,hp,p,hx=>by
    simp only [Qxx] at h
    split at h
    · cases h
    rename_i hM
    have hM:Ms.contains i=false:=by simpa using hM
    split at h
    case h_2=>cases h
    rename_i o ho
    split at h
    case h_2=>cases h
    rename_i d hd
    split at h
    case h_2=>cases h
    rename_i r hr
    split at h
    · rename_i hw
      split at h
      case h_2=>cases h
      rename_i r2 qs hv
      split at h
      case h_2=>cases h
      rename_i hm
      cases h
      obtain ⟨h0,h1⟩:=hp
      obtain ⟨h1,h2⟩:=Qaq h1
      subst h0
      rcases List.mem_cons.1 hx with e | e
      · subst e
        exact ⟨hM,fun o' ho'=>by
          rw [ho] at ho';cases ho'
          exact ⟨d,_,hd,hr,Qvm hw (Qoo hΘ hd hv h1).2⟩⟩
      · exact Qlg hΘ hm h2 p e
    · rename_i hw
      split at h
      case isFalse=>cases h
      rename_i hdn
      split at h
      case h_2=>cases h
      rename_i hm
      cases h
      obtain ⟨h0,h1⟩:=hp
      subst h0
      rcases List.mem_cons.1 hx with e | e
      · subst e
        exact ⟨hM,fun o' ho'=>by
          rw [ho] at ho';cases ho'
          exact ⟨d,_,hd,hr,Qzs hd hdn hw⟩⟩
      · exact Qlg hΘ hm h1 p e
    · cases h
def Qtw (ops:Array Oper) (k:Nat) : Bool:=Qui ops.toList (ops.toList.length - k) && Xfo ops.toList (ops.toList.length - k) && Region.seqB .any ops (ops.toList.length - (ops.toList.length - k)) (ops.toList.length - k) (Qlo ops.toList.length (ops.toList.length - k))
def Xdb (ops:Array Oper) : Nat:=if Qtw ops 0 then 0 else if Qtw ops 1 then 1 else if Qtw ops 2 then 2 else 3
theorem Qij {Θ:Tys} {P:PK} {n:Nat} {ops:Array Oper} {msk sl:List (Nat×AV)} {Ms:List Nat} {Z:List (Nat×Option Qae)×List Nat} : ∀ {l:List Oper} {i k k':Nat} {X:List (Nat×Option Qae)×List Nat} {done rd:List (Nat×AV)} {R R':Rts} {hs hs':List Hn} {ps:List Prop},Qjr Θ P n ops msk sl Ms l i k X done R hs=some (k',rd,R',hs',ps)→R[0]? = some Z→rts R' 0=Z
 | [],i,k,k',X,done,rd,R,R',hs,hs',ps,h,hR=>by simp only [Qjr] at h;cases h;unfold rts;rw [hR];rfl
 | o :: rest,i,k,k',X,done,rd,R,R',hs,hs',ps,h,hR=>by
  simp only [Qjr] at h
  have hR2 : ∀ Y,(R++[Y])[0]? = some Z:=fun Y=>by
   rw [List.getElem?_append_left (List.getElem?_eq_some_iff.1 hR).1];exact hR
  split at h
  case h_2=>cases h
  split at h
  ·split at h
   ·split at h
    case h_2=>cases h
    split at h
    case h_2=>cases h
    rename_i hr
    cases h
    exact Qij hr (hR2 _)
   ·split at h
    case h_2=>cases h
    split at h
    case h_2=>cases h
    rename_i hr
    cases h
    exact Qij hr hR
  ·split at h
   ·cases h
   split at h
   case isFalse=>cases h
   exact Qij h hR
  ·cases h
def exDM (Θ:Tys) (P:PK) (n:Nat) (ops:Array Oper) (m k:Nat) (s:St) (Ms:List Nat) (A:List (List Nat)) (hs:List Hn) : Option (Nat×St×List Hn×List Prop):=
 if Qui ops.toList m && Xbl ops.toList m A && Region.seqB .any ops (ops.toList.length - m) m (Qlo ops.toList.length m) && Xbp ops.toList m A && Ms.all (fun i=>decide (i<m)) && decide (Ms.Nodup) then
  match Qjr Θ P n ops (Qfx (ops.toList.take m)) s.sl Ms (ops.toList.take m) 0 k (s.rt,s.us) [] [(s.rt,s.us)] hs with
  | some (k2,rd,R,hs2,qs)=>if rdB ops.toList m rd then match Qxx Θ P n ops (Qfx (ops.toList.take m)) s.sl Ms R rd (Quf m Ms A) k2 hs2 with
   | some (k3,hs3,ts)=>match Qug Θ P n ops (ops.toList.drop m) k3 ⟨rd++s.sl,(rts R Ms.length).1,(rts R Ms.length).2⟩ hs3 with
    | some (k4,s4,hs4,us)=>some (k4,s4,hs4,qs++(ts++us))
    | none=>none
   | none=>none
   else none
  | none=>none
 else none
theorem Xay {E:Env} {Θ:Tys} (hΘ:TOK E.P Θ) (hmo:E.P.follows .mixedOrders=true) {id:Nat} {ops:Array Oper} {m k k':Nat} {s s':St} {Ms:List Nat} {A:List (List Nat)} {hs hs':List Hn} {ps:List Prop} (h:exDM Θ E.pk E.n ops m k s Ms A hs=some (k',s',hs',ps)) (hp:Qb0 ps) {Q:Exit→St→Prop} (hq:Q .normal s') : TWp E (.region id ops true) Q s:=by
 unfold exDM at h
 split at h
 case isFalse=>cases h
 rename_i hok
 simp only [Bool.and_eq_true,decide_eq_true_eq] at hok
 obtain ⟨⟨⟨⟨⟨hh,ht⟩,hseq⟩,hA⟩,hMs⟩,hMn⟩:=hok
 split at h
 case h_2=>cases h
 rename_i k2 rd R hs2 qs he
 split at h
 case isFalse=>cases h
 rename_i hrd
 split at h
 case h_2=>cases h
 rename_i k3 hs3 ts hx
 split at h
 case h_2=>cases h
 rename_i k4 s4 hs4 us ho
 cases h
 obtain ⟨h1,h2⟩:=Qaq hp
 obtain ⟨h3,h4⟩:=Qaq h2
 obtain ⟨sl,rt,us0⟩:=s
 obtain ⟨X',hmw⟩:=Qih hΘ he h1 (hd:=[]) rfl (MWs.nil _)
 rw [List.nil_append] at hmw
 have hnd:((ops.toList.take m).filterMap (·.dst)).Nodup:=by
  simp only [Qui,Bool.and_eq_true,decide_eq_true_eq] at hh
  exact hh.1.1.2
 have hedge : ∀ i o,i<m→ops.toList[i]? = some o→∀ j∈Qbn o,j<i:=by
  have hh':=hh
  simp only [Qui,Bool.and_eq_true,decide_eq_true_eq,List.all_eq_true] at hh'
  intro i o hi ho j hj
  have:(o,i)∈(ops.toList.take m).zipIdx:=by
   rw [List.mem_zipIdx_iff_getElem?]
   show (ops.toList.take m)[i]? = some o
   rw [List.getElem?_take,if_pos hi];exact ho
  simpa using hh'.1.1.1 _ this j hj
 have hone:=Xj0 hMn hnd hmw hedge (Qlg hΘ hx h3)
 have hR0:rts R 0=(rt,us0):=by
  exact Qij he rfl
 have:=Xbw (E:=E) (id:=id) (ops:=ops) (Q:=Q) m hmo hh ht hseq hA hMs hMn hrd hone (Qhc hΘ ho h4 hq)
 rw [hR0] at this
 exact this
def Xeg (n:Nat) (A:List (List Nat)) : Nat→Nat→Nat
 | 0,t=>t
 | f+1,t=>if decide (t+1≤n) && ((List.range (n - (t+1))).all fun j=>(Qqc A (n - (t+1))).contains j) then Xeg n A f (t+1) else t
def Qyy (ops:Array Oper) : Nat:=ops.toList.length - Xeg ops.toList.length (Qwf ops.toList []) 6 0
def memOp (o:Oper) : Bool:=
 match o.op with
 | .buildSlice _ _ _=>true
 | .makeSlice _ _ _=>true
 | .alloc _=>true
 | .box _ _=>true
 | .call ⟨.builtin .append,_,_⟩=>true
 | _=>false
end Go.T
