/- Lemmas for FnExactPreemptsIn; no condition. -/

import Derived.Test.YtemmdkcpcjidmaaGreatTK
import Derived.Orders
import Derived.StillTail
set_option linter.unusedVariables false
namespace Go.T
open Go Go.RowKit Go.Proofs
@[irreducible] def gd (p:Bool) (r:AV) : AV:=if p=true then r else .lit undef
section
variable {E:Env} {Θ:Tys} {s:St}
end
section
variable {E:Env} {Θ:Tys} {ops:Array Oper} {o:Oper} {rest:List Oper} {sl:List (Nat×AV)} {rt:List (Nat×Option Qas)} {us:List Nat} {K:St→Prop}
end
section
variable {Θ:Tys} {s:St} {id:Nat}
end
section
variable {E:Env} {s:St} {Q:Exit→St→Prop} {k:St→Prop}
end
end Go.T
set_option linter.unusedVariables false
namespace Go.T
open Go Go.RowKit Go.Proofs
def AV.nd:AV→Bool
 | .dead=>false
 | _=>true
def Qvq (sl sl2:List (Nat×AV)) : Prop:=∀ t c,sl.lookup t=some c→c.nd=true→sl2.lookup t=some c
theorem Qyc {sl sl2:List (Nat×AV)} {rt:List (Nat×Option Qas)} {us:List Nat} (h:Qvq sl sl2) {t:Nat} {c:AV} (hg:St.get ⟨sl,rt,us⟩ t=c) (hn:c.nd=true) : St.get ⟨sl2,rt,us⟩ t=c:=by
 simp only [St.get] at hg ⊢
 cases hl:sl.lookup t with
 | none=>rw [hl] at hg;simp only [Option.getD_none] at hg;subst hg;cases hn
 | some c'=>rw [hl] at hg;simp only [Option.getD_some] at hg;subst hg;rw [h _ _ hl hn];rfl
def VTo (E:Env) (ops:Array Oper) (o:Oper) (sl:List (Nat×AV)) (rt:List (Nat×Option Qas)) (us:List Nat) (d:Nat) (r:AV) : Prop:=
 ∀ sl2,Qvq sl sl2→∀ a w (Q:Exit→Act→World→Prop) (K:Act→World→Prop),Rel E ⟨sl2,rt,us⟩ a w→(∀ a' w',Rel E ⟨(d,r) :: sl2,rt,us⟩ a' w'→K a' w') →
  (if Region.wanted o (yielded ops a.tmps) then o.wp E.P a w K Q∨(o.asks E.P a w∧LetsOut Q) else K (a.put o.dst undef) w)
def Qco (ops:List Oper) (done:List (Nat×AV)) (o:Oper) : List (Nat×AV):=
 o.after.toList.filterMap fun e=>if Region.binds .any e then ((ops[e.on]?).bind (·.dst)).bind fun d=>(done.lookup d).map fun r=>(d,r) else none
def Qgh (ops:List Oper) : List (Nat×AV):=ops.filterMap fun o=>o.dst.map fun d=>(d,.dead)
inductive DWs (E:Env) (ops:Array Oper) (sl:List (Nat×AV)) (rt:List (Nat×Option Qas)) (us:List Nat) : List Oper→List (Nat×AV)→Prop
 | nil:DWs E ops sl rt us [] []
 | snoc {hd:List Oper} {done:List (Nat×AV)} {o:Oper} {d:Nat} {r:AV}:DWs E ops sl rt us hd done→o.dst=some d→VTo E ops o (Qco ops.toList done o++(Qgh ops.toList++sl)) rt us d r→DWs E ops sl rt us (hd++[o]) ((d,r) :: done)
def Qc4 (o:Oper) : List Nat:=o.after.toList.filterMap fun e=>if Region.binds .any e then some e.on else none
def Qxp (ops:List Oper) (m:Nat) : Bool:=((ops.take m).zipIdx.all fun p=>(Qc4 p.1).all fun j=>decide (j<p.2)) && decide (((ops.take m).filterMap (·.dst)).Nodup) && (ops.take m).all (·.dst.isSome) && decide (m≤ops.length)
def Xjf (ops:List Oper) (m:Nat) : Bool:=(ops.zipIdx.drop m).all fun p=>(List.range p.2).all fun j=>(Qc4 p.1).contains j
def Qou (n m:Nat) : Array Bool:=(List.replicate m true++List.replicate (n - m) false).toArray
theorem Qmq {f g:Nat→Bool} {i:Nat} : ∀ {l:List Nat},l.Nodup→i∈l→f i=true→g i=false→(∀ j,j≠i→g j=f j)→l.countP g+1=l.countP f
 | [],_,h,_,_,_=>by cases h
 | x :: l,hn,hi,hf,hg,ho=>by
  rw [List.nodup_cons] at hn
  rcases List.mem_cons.1 hi with e | e
  ·subst e
   rw [List.countP_cons,List.countP_cons,hf,hg]
   have:l.countP g=l.countP f:=List.countP_congr (fun j hj=>by rw [ho j (fun e=>hn.1 (e ▸ hj))])
   simp [this]
  ·have hx:x≠i:=fun h=>hn.1 (h ▸ e)
   rw [List.countP_cons,List.countP_cons,ho x hx]
   have:=Qmq hn.2 e hf hg ho
   omega
theorem Xfy {o:Oper} {j:Nat} (h:j∈Qc4 o) : ∃ e∈o.after,Region.binds .any e=true∧e.on=j:=by
 simp only [Qc4,List.mem_filterMap] at h
 obtain ⟨e,he,h⟩:=h
 split at h
 ·cases h;exact ⟨e,by simpa using he,by assumption,rfl⟩
 ·cases h
theorem Qm9 {ops:Array Oper} {listed:Array Bool} {i:Nat} (hs:listed.size=ops.size) : i∈Region.ready .any ops listed↔∃ o,ops[i]? = some o∧listed.getD i false=false∧∀ j∈Qc4 o,listed.getD j false=true:=by
 unfold Region.ready
 simp only [List.mem_filter,List.mem_range,Bool.and_eq_true,Bool.not_eq_true']
 constructor
 ·rintro ⟨hi,h1,h2⟩
  refine ⟨ops[i],by simp [hi],?_,?_⟩
  ·rw [Array.getD_eq_getD_getElem?] at h1 ⊢
   rw [Array.getElem?_eq_getElem (by omega)] at h1 ⊢
   simpa using h1
  ·intro j hj
   obtain ⟨e,he,hb,rfl⟩:=Xfy hj
   rw [Array.getElem?_eq_getElem hi] at h2
   simp only [Option.map_some,Option.getD_some,Array.all_eq_true_iff_forall_mem] at h2
   have:=h2 e he
   simpa [hb] using this
 ·rintro ⟨o,ho,h1,h2⟩
  obtain ⟨hi,rfl⟩:=Array.getElem?_eq_some_iff.1 ho
  refine ⟨hi,?_,?_⟩
  ·rw [Array.getD_eq_getD_getElem?] at h1 ⊢
   rw [Array.getElem?_eq_getElem (by omega)] at h1 ⊢
   simpa using h1
  ·rw [Array.getElem?_eq_getElem hi]
   simp only [Option.map_some,Option.getD_some,Array.all_eq_true_iff_forall_mem]
   intro e he
   cases hb:Region.binds .any e with
   | false=>rfl
   | true =>
    simp only [Bool.not_true,Bool.false_or]
    refine h2 _ ?_
    simp only [Qc4,List.mem_filterMap]
    exact ⟨e,by simpa using he,by rw [if_pos hb]⟩
def Xnh (E:Env) (l:List Oper) (m:Nat) (sl:List (Nat×AV)) (rt:List (Nat×Option Qas)) (us:List Nat) (rd:List (Nat×AV)) (listed:Array Bool) (a:Act) (w:World) : Prop:=
 ∃ sl2,Rel E ⟨sl2,rt,us⟩ a w∧(∀ j o d r,j<m→l[j]? = some o→listed.getD j false=true→o.dst=some d→rd.lookup d=some r→r.nd=true→sl2.lookup d=some r)∧(∀ t c,rd.lookup t=none→sl.lookup t=some c→c.nd=true→sl2.lookup t=some c)
def DOne (E:Env) (l:List Oper) (m:Nat) (sl:List (Nat×AV)) (rt:List (Nat×Option Qas)) (us:List Nat) (rd:List (Nat×AV)) : Prop:=
 ∀ i o,i<m→l[i]? = some o→∃ d r,o.dst=some d∧rd.lookup d=some r∧VTo E l.toArray o (Qco l rd o++(Qgh l++sl)) rt us d r
theorem Qb4 {β:Type} : ∀ (l r:List (Nat×β)) (t:Nat) (c : β),(l++r).lookup t=some c→l.lookup t=some c∨l.lookup t=none∧r.lookup t=some c
 | [],r,t,c,h=>.inr ⟨rfl,h⟩
 | (i,x) :: l,r,t,c,h=>by
  by_cases e:t=i
  ·subst e;rw [List.cons_append,Qb0] at h;rw [Qb0];exact .inl h
  ·rw [List.cons_append,Qal e] at h;rw [Qal e];exact Qb4 l r t c h
theorem Qbf {β:Type} : ∀ {l:List (Nat×β)} {t:Nat} {c : β},l.lookup t=some c→(t,c)∈l
 | [],_,_,h=>by simp at h
 | (i,x) :: l,t,c,h=>by
  by_cases e:t=i
  ·subst e;rw [Qb0] at h;cases h;exact List.mem_cons_self
  ·rw [Qal e] at h;exact List.mem_cons_of_mem _ (Qbf h)
theorem Qep {β:Type} : ∀ {l:List (Nat×β)} {t:Nat} {c : β},(t,c)∈l→∃ c',l.lookup t=some c'
 | (i,x) :: l,t,c,h=>by
  by_cases e:t=i
  ·subst e;exact ⟨x,Qb0 _ _ _⟩
  ·rw [Qal e]
   rcases List.mem_cons.1 h with h | h
   ·cases h;exact absurd rfl e
   ·exact Qep h
theorem Xga {E:Env} {l:List Oper} {m:Nat} {sl:List (Nat×AV)} {rt:List (Nat×Option Qas)} {us:List Nat} {rd:List (Nat×AV)} (hone:DOne E l m sl rt us rd) (hdist : ∀ i j oi oj d,i<m→j<m→l[i]? = some oi→l[j]? = some oj→oi.dst=some d→oj.dst=some d→i=j)
  (hrd : ∀ d r,rd.lookup d=some r→∃ j o,j<m∧l[j]? = some o∧o.dst=some d) (hedge : ∀ i o,i<m→l[i]? = some o→∀ j∈Qc4 o,j<i)
  {Q:Exit→Act→World→Prop} {K:Act→World→Prop} {listed:Array Bool} {a:Act} {w:World} {i:Nat} {o:Oper} (hi:i<m) (ho:l[i]? = some o) (hready : ∀ j∈Qc4 o,listed.getD j false=true) (hsz:i<listed.size) (hinv:Xnh E l m sl rt us rd listed a w)
  (hk : ∀ a' w',Xnh E l m sl rt us rd (listed.setIfInBounds i true) a' w'→K a' w') : wpOp E.P l.toArray Q i K a w:=by
 obtain ⟨sl2,hr,hA,hB⟩:=hinv
 obtain ⟨d,r,hd,hrr,hv⟩:=hone i o hi ho
 have ho':l.toArray[i]? = some o:=by simpa using ho
 unfold wpOp
 rw [ho']
 refine hv sl2 ?_ a w Q K hr (fun a' w' hr'=>hk a' w' ⟨_,hr',?_,?_⟩)
 ·intro t c ht hn
  rcases Qb4 _ _ _ _ ht with h | ⟨h0,h⟩
  ·have hm:=Qbf h
   simp only [Qco,List.mem_filterMap] at hm
   obtain ⟨e,he,hm⟩:=hm
   split at hm
   case isFalse=>cases hm
   rename_i hb
   obtain ⟨d',hd',hm⟩:=Option.bind_eq_some_iff.1 hm
   obtain ⟨oj,hoj,hdj⟩:=Option.bind_eq_some_iff.1 hd'
   obtain ⟨r',hr',hm⟩:=Option.map_eq_some_iff.1 hm
   cases hm
   have hej:e.on∈Qc4 o:=by
    simp only [Qc4,List.mem_filterMap]
    exact ⟨e,he,by rw [if_pos hb]⟩
   have hlt:e.on<m:=Nat.lt_trans (hedge i o hi ho _ hej) hi
   exact hA e.on oj _ _ hlt hoj (hready _ hej) hdj hr' hn
  ·rcases Qb4 _ _ _ _ h with h | ⟨h1,h⟩
   ·have hm:=Qbf h
    simp only [Qgh,List.mem_filterMap] at hm
    obtain ⟨_,_,hm⟩:=hm
    obtain ⟨_,_,hm⟩:=Option.map_eq_some_iff.1 hm
    cases hm
    cases hn
   ·refine hB t c ?_ h hn
    cases hl:rd.lookup t with
    | none=>rfl
    | some r' =>
     obtain ⟨j,oj,hj,hoj,hdj⟩:=hrd _ _ hl
     have:(t,AV.dead)∈Qgh l:=by
      simp only [Qgh,List.mem_filterMap]
      exact ⟨oj,List.mem_of_getElem? hoj,by rw [hdj];rfl⟩
     obtain ⟨c',hc'⟩:=Qep this
     rw [h1] at hc';cases hc'
 ·intro j oj d' r' hj hoj hl hdj hrd' hn
  by_cases e:d'=d
  ·subst e
   have:=hdist i j o oj d' hi hj ho hoj hd hdj
   subst this
   rw [Qb0]
   rw [hrr] at hrd';exact hrd'
  ·rw [Qal e]
   have hne:i≠j:=by
    rintro rfl
    rw [ho] at hoj;cases hoj
    rw [hd] at hdj;cases hdj;exact e rfl
   rw [Go.getD_set_ne false hne] at hl
   exact hA j oj d' r' hj hoj hl hdj hrd' hn
 ·intro t c hl hs hn
  by_cases e:t=d
  ·subst e;rw [hrr] at hl;cases hl
  ·rw [Qal e];exact hB t c hl hs hn
theorem Ql9 {listed:Array Bool} : ∀ (m j:Nat),j<m→listed.getD j false=false→∃ i,i<m∧listed.getD i false=false∧∀ k,k<i→listed.getD k false=true
 | 0,_,h,_=>absurd h (Nat.not_lt_zero _)
 | m+1,j,h,hj=>by
  by_cases hx : ∃ k,k<m∧listed.getD k false=false
  ·obtain ⟨k,hk,hk2⟩:=hx
   obtain ⟨i,hi,h1,h2⟩:=Ql9 m k hk hk2
   exact ⟨i,Nat.lt_succ_of_lt hi,h1,h2⟩
  ·have hall : ∀ k,k<m→listed.getD k false=true:=fun k hk=>by
    cases hc:listed.getD k false with
    | true=>rfl
    | false=>exact absurd ⟨k,hk,hc⟩ hx
   have:j=m:=by
    rcases Nat.lt_or_ge j m with h' | h'
    ·rw [hall j h'] at hj;cases hj
    ·omega
   subst this
   exact ⟨j,Nat.lt_succ_self _,hj,hall⟩
theorem Xcx {E:Env} {l:List Oper} {m:Nat} {sl:List (Nat×AV)} {rt:List (Nat×Option Qas)} {us:List Nat} {rd:List (Nat×AV)} (hone:DOne E l m sl rt us rd) (hdist : ∀ i j oi oj d,i<m→j<m→l[i]? = some oi→l[j]? = some oj→oi.dst=some d→oj.dst=some d→i=j)
    (hrd : ∀ d r,rd.lookup d=some r→∃ j o,j<m∧l[j]? = some o∧o.dst=some d) (hedge : ∀ i o,i<m→l[i]? = some o→∀ j∈Qc4 o,j<i) (htail : ∀ i o,m≤i→l[i]? = some o→∀ j,j<i→j∈Qc4 o) (hml:m≤l.length)
    {Q:Exit→Act→World→Prop} (hseq:Region.seqB .any l.toArray (l.length - m) m (Qou l.length m)=true)
    (hend : ∀ a w,Xnh E l m sl rt us rd (Qou l.length m) a w→wpList E.P l.toArray Q (l.drop m) a w) :
    ∀ (u:Nat) (listed:Array Bool) (a:Act) (w:World),listed.size=l.length→(∀ j,m≤j→listed.getD j false=false)→(List.range m).countP (fun j => !listed.getD j false)=u→Xnh E l m sl rt us rd listed a w→wpAny E.P .any l.toArray Q (l.length - m+u) listed a w
  | 0,listed,a,w,hs,ht,hu,hinv=>by
    have hall : ∀ j,j<m→listed.getD j false=true:=by
      intro j hj
      have:=List.countP_eq_zero.1 hu j (by simpa using hj)
      simpa using this
    have e:listed=Qou l.length m:=by
      apply Array.ext
      · simp [Qou,hs];omega
      · intro j h1 h2
        have e1:listed.getD j false=listed[j]:=by rw [Array.getD_eq_getD_getElem?,Array.getElem?_eq_getElem h1];rfl
        rw [← e1]
        simp only [Qou,List.getElem_toArray]
        by_cases hj:j<m
        · rw [hall j hj,List.getElem_append_left (by simpa using hj)];simp
        · rw [ht j (by omega),List.getElem_append_right (by simpa using hj)];simp
    subst e
    have h0:=hend a w hinv
    have:=wpAny_of_seq (md:=.any) (Q':=Q) (l.drop m) m (Qou l.length m) a w (fun j=>by simp [List.getElem?_drop]) (by simpa using hseq) h0
    simpa using this
  | u+1,listed,a,w,hs,ht,hu,hinv=>by
    have hs':listed.size=l.toArray.size:=by simpa using hs
    have hex : ∃ j,j<m∧listed.getD j false=false:=by
      have : 0<(List.range m).countP (fun j => !listed.getD j false):=by omega
      obtain ⟨j,hj,hj2⟩:=List.countP_pos_iff.1 this
      exact ⟨j,by simpa using hj,by simpa using hj2⟩
    obtain ⟨j0,hj0,hj1⟩:=hex
    obtain ⟨i0,hi0,hi1,hi2⟩:=Ql9 m j0 hj0 hj1
    rw [← Nat.add_assoc]
    refine ⟨fun hnil=>?_,fun i hi=>?_⟩
    · obtain ⟨o,ho⟩ : ∃ o,l[i0]? = some o:=⟨l[i0]'(by omega),by simp⟩
      have:i0∈Region.ready .any l.toArray listed:=(Qm9 hs').2 ⟨o,by simpa using ho,hi1,fun j hj=>hi2 j (hedge i0 o hi0 ho j hj)⟩
      rw [hnil] at this;cases this
    · obtain ⟨o,ho,hl,hr⟩:=(Qm9 hs').1 hi
      have ho:l[i]? = some o:=by simpa using ho
      have him:i<m:=by
        rcases Nat.lt_or_ge i m with h | h
        · exact h
        · have:=hr i0 (htail i o h ho i0 (by omega))
          rw [hi1] at this;cases this
      refine Xga hone hdist hrd hedge him ho hr (by omega) hinv (fun a' w' hinv'=>?_)
      refine Xcx hone hdist hrd hedge htail hml hseq hend u _ a' w' (by simpa using hs) ?_ ?_ hinv'
      · intro j hj
        rw [Go.getD_set_ne false (by omega)]
        exact ht j hj
      · have:=Qmq (f:=fun j => !listed.getD j false) (g:=fun j => !(listed.setIfInBounds i true).getD j false) (i:=i) (l:=List.range m) List.nodup_range (by simpa using him) (by simp [hl]) (by
          have:i<listed.size:=by rw [hs];omega
          simp [this]) (fun j hj=>by simp only [Go.getD_set_ne false (Ne.symm hj)])
        omega
theorem Qko {l:List Oper} (h:(l.filterMap (·.dst)).Nodup) : ∀ (i j:Nat) (oi oj:Oper) (d:Nat),l[i]? = some oi→l[j]? = some oj→oi.dst=some d→oj.dst=some d→i=j:=by
 induction l with
 | nil=>intro i j oi oj d hi;simp at hi
 | cons o l ih =>
  intro i j oi oj d hi hj hdi hdj
  have hsub:(l.filterMap (·.dst)).Nodup:=by
   cases hd:o.dst with
   | none=>simpa [List.filterMap_cons,hd] using h
   | some d=>rw [List.filterMap_cons,hd] at h;exact (List.nodup_cons.1 h).2
  have hnin : ∀ (k:Nat) (ok:Oper),l[k]? = some ok→ok.dst=o.dst→o.dst=some d→False:=by
   intro k ok hk he hd
   rw [List.filterMap_cons,hd] at h
   exact (List.nodup_cons.1 h).1 (List.mem_filterMap.2 ⟨ok,List.mem_of_getElem? hk,by rw [he,hd]⟩)
  cases i with
  | zero =>
   cases j with
   | zero=>rfl
   | succ j =>
    simp at hi hj
    subst hi
    exact (hnin j oj hj (by rw [hdi,hdj]) hdi).elim
  | succ i =>
   cases j with
   | zero =>
    simp at hi hj
    subst hj
    exact (hnin i oi hi (by rw [hdi,hdj]) hdj).elim
   | succ j =>
    simp at hi hj
    rw [ih hsub i j oi oj d hi hj hdi hdj]
theorem Xf2 {E:Env} {ops:Array Oper} {sl:List (Nat×AV)} {rt:List (Nat×Option Qas)} {us:List Nat} {hd:List Oper} {rd:List (Nat×AV)} (h:DWs E ops sl rt us hd rd) :
  rd.map (·.1)=(hd.filterMap (·.dst)).reverse∧(∀ (i:Nat) (o:Oper),hd[i]? = some o→∃ d r,∃ done:List (Nat×AV),o.dst=some d∧(d,r)∈rd∧(∀ x∈done,x∈rd)∧VTo E ops o (Qco ops.toList done o++(Qgh ops.toList++sl)) rt us d r):=by
 induction h with
 | nil=>exact ⟨rfl,fun i o h=>by simp at h⟩
 | @snoc hd done o d r h hdst hv ih =>
  obtain ⟨h1,h2⟩:=ih
  refine ⟨by simp [hdst,h1],?_⟩
  intro i o' hi
  rw [List.getElem?_append] at hi
  split at hi
  ·obtain ⟨d',r',done',e1,e2,e3,e4⟩:=h2 i o' hi
   exact ⟨d',r',done',e1,List.mem_cons_of_mem _ e2,fun x hx=>List.mem_cons_of_mem _ (e3 x hx),e4⟩
  ·rename_i hlt
   have:o'=o:=by
    have hz:i - hd.length=0:=by
     rcases Nat.eq_zero_or_pos (i - hd.length) with h | h
     ·exact h
     ·rw [List.getElem?_eq_none (by simp;omega)] at hi;cases hi
    rw [hz] at hi
    simpa using hi.symm
   subst this
   exact ⟨d,r,done,hdst,List.mem_cons_self,fun x hx=>List.mem_cons_of_mem _ hx,hv⟩
theorem Qht {β:Type} : ∀ {l:List (Nat×β)},(l.map (·.1)).Nodup→∀ {t:Nat} {c : β},(t,c)∈l→l.lookup t=some c
 | [],_,_,_,h=>by cases h
 | (i,x) :: l,hn,t,c,h=>by
  rw [List.map_cons,List.nodup_cons] at hn
  rcases List.mem_cons.1 h with h | h
  ·cases h;exact Qb0 _ _ _
  ·have:t≠i:=fun e=>hn.1 (List.mem_map.2 ⟨(t,c),h,e⟩)
   rw [Qal this];exact Qht hn.2 h
theorem Xi6 {E:Env} {ops:Array Oper} {o:Oper} {sl sl':List (Nat×AV)} {rt:List (Nat×Option Qas)} {us:List Nat} {d:Nat} {r:AV} (h:VTo E ops o sl rt us d r) (hle:Qvq sl sl') : VTo E ops o sl' rt us d r:=
 fun sl2 h2=>h sl2 (fun t c ht hn=>h2 t c (hle t c ht hn) hn)
theorem Xi8 {E:Env} {id:Nat} {ops:Array Oper} {sl:List (Nat×AV)} {rt:List (Nat×Option Qas)} {us:List Nat} {rd:List (Nat×AV)} {Q:Exit→St→Prop} (m:Nat) (hm:E.P.follows .mixedOrders=true)
    (hh:Qxp ops.toList m=true) (ht:Xjf ops.toList m=true) (hseq:Region.seqB .any ops (ops.toList.length - m) m (Qou ops.toList.length m)=true)
    (hd:DWs E ops sl rt us (ops.toList.take m) rd) (h:RW E ops (ops.toList.drop m) ⟨rd++sl,rt,us⟩ (Q .normal)) : TWp E (.region id ops true) Q ⟨sl,rt,us⟩:=by
  obtain ⟨l⟩:=ops
  simp only at hh ht hseq hd h
  simp only [Qxp,Bool.and_eq_true,decide_eq_true_eq,List.all_eq_true] at hh
  obtain ⟨⟨⟨hh1,hh2⟩,hh3⟩,hml⟩:=hh
  simp only [Xjf,List.all_eq_true] at ht
  obtain ⟨f1,f2⟩:=Xf2 hd
  have hnd:(rd.map (·.1)).Nodup:=by rw [f1];exact (List.reverse_perm _).nodup_iff.2 hh2
  have htk : ∀ i o,i<m→l[i]? = some o→(l.take m)[i]? = some o:=fun i o hi ho=>by rw [List.getElem?_take,if_pos hi];exact ho
  have hedge : ∀ i o,i<m→l[i]? = some o→∀ j∈Qc4 o,j<i:=by
    intro i o hi ho j hj
    have:(o,i)∈(l.take m).zipIdx:=by
      rw [List.mem_zipIdx_iff_getElem?];exact htk i o hi ho
    simpa using hh1 _ this j hj
  have htail : ∀ i o,m≤i→l[i]? = some o→∀ j,j<i→j∈Qc4 o:=by
    intro i o hi ho j hj
    have:(o,i)∈l.zipIdx.drop m:=by
      apply List.mem_of_getElem? (i:=i - m)
      rw [List.getElem?_drop,show m+(i - m)=i by omega,List.getElem?_zipIdx,ho]
      simp
    have:=ht _ this j (by simpa using hj)
    simpa using this
  have hone:DOne E l m sl rt us rd:=by
    intro i o hi ho
    obtain ⟨d,r,done,e1,e2,e3,e4⟩:=f2 i o (htk i o hi ho)
    refine ⟨d,r,e1,Qht hnd e2,Xi6 e4 ?_⟩
    intro t c ht' hn
    rcases Qb4 _ _ _ _ ht' with h | ⟨h0,h⟩
    · have hm:=Qbf h
      have:(t,c)∈Qco l rd o:=by
        simp only [Qco,List.mem_filterMap] at hm ⊢
        obtain ⟨e,he,hm⟩:=hm
        refine ⟨e,he,?_⟩
        split at hm
        case isFalse=>cases hm
        rename_i hb
        rw [if_pos hb]
        obtain ⟨d',hd',hm⟩:=Option.bind_eq_some_iff.1 hm
        obtain ⟨r',hr',hm⟩:=Option.map_eq_some_iff.1 hm
        cases hm
        rw [hd',Option.bind_some,Qht hnd (e3 _ (Qbf hr'))]
        rfl
      obtain ⟨c',hc'⟩:=Qep this
      have hc2:=Qbf hc'
      simp only [Qco,List.mem_filterMap] at hc2 this
      have key : ∀ c,(∃ e∈o.after.toList,(if Region.binds .any e=true then ((l[e.on]?).bind (·.dst)).bind fun d=>(rd.lookup d).map fun r=>(d,r) else none)=some (t,c))→rd.lookup t=some c:=by
        rintro c ⟨e,he,hm⟩
        split at hm
        case isFalse=>cases hm
        obtain ⟨d',hd',hm⟩:=Option.bind_eq_some_iff.1 hm
        obtain ⟨r',hr',hm⟩:=Option.map_eq_some_iff.1 hm
        cases hm;exact hr'
      have k1:=key c this
      have k2:=key c' hc2
      rw [k1] at k2;cases k2
      show ((Qco l rd o)++(Qgh l++sl)).lookup t=some c
      rw [List.lookup_append,hc'];rfl
    · rcases Qb4 _ _ _ _ h with h | ⟨h1,h⟩
      · have hm:=Qbf h
        simp only [Qgh,List.mem_filterMap] at hm
        obtain ⟨_,_,hm⟩:=hm
        obtain ⟨_,_,hm⟩:=Option.map_eq_some_iff.1 hm
        cases hm;cases hn
      · have hp:(Qco l rd o).lookup t=none:=by
          cases hl:(Qco l rd o).lookup t with
          | none=>rfl
          | some c' =>
            have hm:=Qbf hl
            simp only [Qco,List.mem_filterMap] at hm
            obtain ⟨e,he,hm⟩:=hm
            split at hm
            case isFalse=>cases hm
            obtain ⟨d',hd',hm⟩:=Option.bind_eq_some_iff.1 hm
            obtain ⟨oj,hoj,hdj⟩:=Option.bind_eq_some_iff.1 hd'
            obtain ⟨r',hr',hm⟩:=Option.map_eq_some_iff.1 hm
            cases hm
            have:(t,AV.dead)∈Qgh l:=by
              simp only [Qgh,List.mem_filterMap]
              exact ⟨oj,List.mem_of_getElem? hoj,by rw [hdj];rfl⟩
            obtain ⟨c',hc'⟩:=Qep this
            rw [h1] at hc';cases hc'
        rw [List.lookup_append,hp,Option.none_or,List.lookup_append,h1,Option.none_or]
        exact h
  have hdist : ∀ i j oi oj d,i<m→j<m→l[i]? = some oi→l[j]? = some oj→oi.dst=some d→oj.dst=some d→i=j:=fun i j oi oj d hi hj hoi hoj hdi hdj =>
    Qko hh2 i j oi oj d (htk i oi hi hoi) (htk j oj hj hoj) hdi hdj
  have hrd : ∀ d r,rd.lookup d=some r→∃ j o,j<m∧l[j]? = some o∧o.dst=some d:=by
    intro d r hl
    have:d∈rd.map (·.1):=List.mem_map.2 ⟨_,Qbf hl,rfl⟩
    rw [f1,List.mem_reverse,List.mem_filterMap] at this
    obtain ⟨o,ho,hdo⟩:=this
    obtain ⟨j,hj⟩:=List.mem_iff_getElem?.1 ho
    rw [List.getElem?_take] at hj
    split at hj
    · exact ⟨j,o,by assumption,hj,hdo⟩
    · cases hj
  intro a w hr
  refine wp_region_any hm ?_
  have hstart:Xnh E l m sl rt us rd (Array.replicate l.length false) a { w with drawn:=w.drawn+1 }:=by
    refine ⟨sl,?_,?_,fun t c _ h _=>h⟩
    · obtain ⟨χ,hd',h0⟩:=hr
      exact ⟨χ,hd',h0.world rfl rfl Tp.drew rfl⟩
    · intro j o d r hj ho hl
      rw [Array.getD_eq_getD_getElem?,Array.getElem?_replicate] at hl
      split at hl <;> cases hl
  have hcnt:(List.range m).countP (fun j => !(Array.replicate l.length false).getD j false)=m:=by
    rw [List.countP_eq_length.2]
    · simp
    · intro j hj
      rw [Array.getD_eq_getD_getElem?,Array.getElem?_replicate]
      split <;> rfl
  have hfin : ∀ a w,Xnh E l m sl rt us rd (Qou l.length m) a w→wpList E.P l.toArray (fun e a' w' => ∃ s',Q e s'∧Rel E s' a' w') (l.drop m) a w:=by
    rintro a w ⟨sl2,⟨χ,hd',hr⟩,hA,hB⟩
    refine h a w _ ⟨χ,hd',hr.weak (s2:=⟨rd++sl,rt,us⟩) (fun t=>?_) (fun _=>rfl) rfl⟩ (fun s' a' w' hs' hr'=>⟨s',hs',hr'⟩)
    simp only [St.get]
    cases hl:(rd++sl).lookup t with
    | none=>right;rfl
    | some c =>
      cases hn:c.nd with
      | false=>right;cases c <;> first | rfl | cases hn
      | true =>
        left
        rcases Qb4 _ _ _ _ hl with h | ⟨h1,h⟩
        · obtain ⟨j,o,hj,ho,hdo⟩:=hrd _ _ h
          rw [hA j o t c hj ho (by
            rw [Array.getD_eq_getD_getElem?]
            simp only [Qou,List.getElem?_toArray]
            rw [List.getElem?_append_left (by simpa using hj)]
            simp [hj]) hdo h hn]
        · rw [hB t c h1 h hn]
  have:=Xcx (Q:=fun e a' w' => ∃ s',Q e s'∧Rel E s' a' w') hone hdist hrd hedge htail hml hseq hfin m (Array.replicate l.length false) a _ (by simp) (fun j _=>by
    rw [Array.getD_eq_getD_getElem?,Array.getElem?_replicate]
    split <;> rfl) hcnt hstart
  rw [show l.length - m+m=l.length by omega] at this
  simpa using this
def DWt (E:Env) (ops:Array Oper) (sl:List (Nat×AV)) (rt:List (Nat×Option Qas)) (us:List Nat) (rest:List Oper) (done rd:List (Nat×AV)) : Prop:=∀ hd,DWs E ops sl rt us hd done→DWs E ops sl rt us (hd++rest) rd
theorem Xp7 {E:Env} {ops:Array Oper} {sl:List (Nat×AV)} {rt:List (Nat×Option Qas)} {us:List Nat} {done:List (Nat×AV)}:DWt E ops sl rt us [] done done:=fun hd h=>by rw [List.append_nil];exact h
theorem Xep {E:Env} {ops:Array Oper} {sl:List (Nat×AV)} {rt:List (Nat×Option Qas)} {us:List Nat} {o:Oper} {rest:List Oper} {done rd:List (Nat×AV)} {d:Nat} {r:AV} (hd:o.dst=some d) (hv:VTo E ops o (Qco ops.toList done o++(Qgh ops.toList++sl)) rt us d r) (h:DWt E ops sl rt us rest ((d,r) :: done) rd) : DWt E ops sl rt us (o :: rest) done rd:=fun hd' h'=>by
 have:=h _ (DWs.snoc h' hd hv)
 rwa [List.append_assoc] at this
theorem Xfk {E:Env} {id:Nat} {ops:Array Oper} {sl:List (Nat×AV)} {rt:List (Nat×Option Qas)} {us:List Nat} {rd:List (Nat×AV)} {Q:Exit→St→Prop} (k:Nat) (hm:E.P.follows .mixedOrders=true)
  (hh:Qxp ops.toList (ops.toList.length - k)=true) (ht:Xjf ops.toList (ops.toList.length - k)=true) (hseq:Region.seqB .any ops (ops.toList.length - (ops.toList.length - k)) (ops.toList.length - k) (Qou ops.toList.length (ops.toList.length - k))=true)
  (hd:DWt E ops sl rt us (ops.toList.take (ops.toList.length - k)) [] rd) (h:RW E ops (ops.toList.drop (ops.toList.length - k)) ⟨rd++sl,rt,us⟩ (Q .normal)) : TWp E (.region id ops true) Q ⟨sl,rt,us⟩:=
 Xi8 _ hm hh ht hseq (by simpa using hd [] DWs.nil) h
end Go.T
set_option linter.unusedVariables false
namespace Go.T
open Go Go.RowKit Go.Proofs
mutual
theorem Qzg (π:List (Nat×Nat)) : ∀ a:AV,Qzi a=true→Ql3 π a=a
 | .sl _ _ _,h=>by simp [Qzi] at h
 | .ptr _ _ _,h=>by simp [Qzi] at h
 | .agg cs,h=>by simp only [Qzi] at h;simp only [Ql3,Qp1 π cs h]
 | .tup cs,h=>by simp only [Qzi] at h;simp only [Ql3,Qp1 π cs h]
 | .fn g cs,h=>by simp only [Qzi] at h;simp only [Ql3,Qp1 π cs h]
 | .dead,_=>rfl
 | .lit _,_=>rfl
 | .ro _ _,_=>rfl
 | .own _ _ _,_=>rfl
 | .rop _ _,_=>rfl
theorem Qp1 (π:List (Nat×Nat)) : ∀ cs:List AV,Qcy cs=true→Xeo π cs=cs
 | [],_=>rfl
 | c :: cs,h=>by
  simp only [Qcy,Bool.and_eq_true] at h
  simp only [Xeo,Qzg π c h.1,Qp1 π cs h.2]
end
theorem Qxe (π:List (Nat×Nat)) : ∀ xs:List (List AV),Qa2 xs=true→Qtg π xs=xs
 | [],_=>rfl
 | x :: xs,h=>by
  simp only [Qa2,List.all_cons,Bool.and_eq_true] at h
  have:=Qxe π xs h.2
  simp only [Qtg] at this
  simp only [Qtg,List.map_cons,Qp1 π x h.1,this]
def Xi4 (s:St) (π:List (Nat×Nat)) : List (Nat×AV)→Prop
 | []=>True
 | (t,v) :: r=>Ql3 π (s.get t)=v∧Xi4 s π r
def Qa8 (π:List (Nat×Nat)) (xs:List (List AV)) : Prop:=Qa2 xs=true∨Qtg π xs=xs
theorem Qa8.eq {π:List (Nat×Nat)} {xs:List (List AV)} (h:Qa8 π xs) : Qtg π xs=xs:=h.elim (Qxe π xs) id
def okRt (s:St) (π:List (Nat×Nat)) : List (Nat×Nat×Qas)→Prop
 | []=>True
 | (i,_,R) :: r=>(s.root i=some R∧Qa8 π R.xs)∧okRt s π r
def piR (l:List (Nat×Nat×Qas)) : List (Nat×Nat):=l.map fun x=>(x.1,x.2.1)
def ndB:List Nat→Bool
 | []=>true
 | x :: l => !l.contains x && ndB l
theorem Qo4 : ∀ {l:List Nat},ndB l=true→l.Nodup
 | [],_=>List.nodup_nil
 | x :: l,h=>by
  simp only [ndB,Bool.and_eq_true,Bool.not_eq_true'] at h
  exact List.nodup_cons.2 ⟨by simpa using h.1,Qo4 h.2⟩
def okPi (π:List (Nat×Nat)) : Bool:=ndB (π.map (·.1)) && ndB (π.map (·.2)) && !(π.map (·.2)).contains JJ && !(π.map (·.1)).contains JJ
theorem Xa9 {s:St} {π:List (Nat×Nat)} : ∀ {l:List (Nat×AV)},Xi4 s π l→∀ t v,l.lookup t=some v→Ql3 π (s.get t)=v
 | [],_,t,v,h=>by simp at h
 | (x,u) :: r,⟨h1,h2⟩,t,v,h=>by
  by_cases e:t=x
  ·subst e;rw [Qb0] at h;cases h;exact h1
  ·rw [Qal e] at h;exact Xa9 h2 t v h
theorem Xbx {s:St} {π:List (Nat×Nat)} : ∀ {l:List (Nat×Nat×Qas)},okRt s π l→(piR l).map (fun p=>(p.2,(s.root p.1).map (Xjk π)))=l.map (fun x=>(x.2.1,some x.2.2))
 | [],_=>rfl
 | (i,j,R) :: r,⟨⟨h1,h2⟩,h3⟩=>by
  have:=Xbx (π:=π) h3
  simp only [piR] at this
  simp only [piR,List.map_cons,this,h1,Option.map_some,Xjk,h2.eq]
def fxB (f:List (Nat×Value)) (π:List (Nat×Nat)) : Bool:=f.all fun p=>π.lookup p.1 == some p.1
theorem Xm9 {f:List (Nat×Value)} {π:List (Nat×Nat)} (h:fxB f π=true) : ∀ p,p∈f→π.lookup p.1=some p.1:=by
 simp only [fxB,List.all_eq_true] at h
 intro p hp
 simpa using h p hp
theorem Xps (E:Env) {s:St} (l:List (Nat×AV)) (rts:List (Nat×Nat×Qas)) (hπ:okPi (piR rts)=true) (hfx:fxB E.fx (piR rts)=true) (hsl:Xi4 s (piR rts) l) (hrt:okRt s (piR rts) rts) :
  Ent E s ⟨l,rts.map (fun x=>(x.2.1,some x.2.2)),(piR rts).map (·.2)++[JJ]⟩:=by
 simp only [okPi,Bool.and_eq_true,Bool.not_eq_true'] at hπ
 obtain ⟨⟨⟨h1,h2⟩,hJ⟩,hJ1⟩:=hπ
 refine (Xm3 E s (piR rts) (l.map (·.1)) (Qo4 h1) (Qo4 h2) (by simpa using hJ) (by simpa using hJ1) (Xm9 hfx)).trans ?_
 rintro a w ⟨χ,hd,hr⟩
 refine ⟨χ,hd,hr.weak (fun t=>?_) (fun i=>?_) rfl⟩
 ·simp only [St.get]
  cases hl:l.lookup t with
  | none=>right;rfl
  | some v =>
   left
   have hv:=Xa9 hsl t v hl
   have hm:t∈l.map (·.1):=List.mem_map.2 ⟨_,Qbf hl,rfl⟩
   show v=(((l.map (·.1)).map (fun t=>(t,Ql3 (piR rts) (s.get t)))).lookup t).getD .dead
   rw [Qsf (fun t=>Ql3 (piR rts) (s.get t)),if_pos hm]
   exact hv.symm
 ·have:=Xbx (π:=piR rts) hrt
  simp only [St.root] at this
  simp only [St.root,St.ren]
  rw [this]
end Go.T
set_option linter.unusedVariables false
namespace Go.T
open Go Go.RowKit Go.Proofs
section
variable {E:Env} {Θ:Tys} {ops:Array Oper} {o:Oper} {rest:List Oper} {sl:List (Nat×AV)} {rt:List (Nat×Option Qas)} {us:List Nat} {K:St→Prop}
theorem Xik {i j T sz e c:Nat} {Y:Qas} {xs xs':List (List AV)} {x:List AV} (hij:j≠i) (hR:St.root ⟨sl,rt,us⟩ i=some ⟨T,sz,xs⟩) (hY:St.root ⟨sl,rt,us⟩ j=some Y) (he:xs[e]? = some x) (hc:x[c]? = some (.sl j 0 Y.xs.length)) (ht:Qa2 Y.xs=true) (hx:xs.set e (x.set c (.own Y.T Y.sz Y.xs))=xs') :
  Ent E ⟨sl,rt,us⟩ ⟨sl,(j,none) :: (i,some ⟨T,sz,xs'⟩) :: rt,us⟩:=by
 subst hx
 rintro a w ⟨χ,hd,h⟩
 exact h.pack (o:=c) hij hR hY he hc ht
theorem Xe4 {i j T sz e c T' sz':Nat} {ys:List (List AV)} {xs xs':List (List AV)} {x:List AV} (hj:j ∉ us) (hR:St.root ⟨sl,rt,us⟩ i=some ⟨T,sz,xs⟩) (he:xs[e]? = some x) (hc:x[c]? = some (.own T' sz' ys)) (hz : 0<sz') (hx:xs.set e (x.set c (.sl j 0 ys.length))=xs') :
  Ent E ⟨sl,rt,us⟩ ⟨sl,(j,some ⟨T',sz',ys⟩) :: (i,some ⟨T,sz,xs'⟩) :: rt,j :: us⟩:=by
 subst hx
 rintro a w ⟨χ,hd,h⟩
 exact h.unpack hj hR he hc hz
end
section
variable {Θ:Tys} {s:St} {id:Nat}
end
end Go.T
set_option linter.unusedVariables false
namespace Go.T
open Go Go.RowKit Go.Proofs
abbrev NS:Nat→Prop:=fun _=>False
def Row (w:World) (T sz:Nat) (h:Value) (xs:List (List AV)) (fp:List Nat) : Prop:=∃ vs fp',w.ownsRow 0 T sz h xs.length vs∧Qeu w NS sz xs vs fp'∧fp=h.ownBlock.toList++fp'
theorem Qv7 {E:Env} {Θ:Tys} (hΘ:TOK E.P Θ) {fn:Func} {s:St} {a:Act} {w:World} {χ:Nat→Option Nat} {hd:Nat→Value} (h:Qd4 E s a w χ hd) {xs:List AV} (hxs:Qxw Θ s fn.results.toList=some xs) : ∃ v,(results fn a.tmps).run E.P w = .ok v w∧repR w (Qbw χ w) (· ∈ s.us) (tab s hd) (one xs) v []:=by
 obtain ⟨vs,hrun,hrep⟩:=Quv (E:=E) hΘ h _ _ hxs
 have hlen:=Qbd _ _ _ hrep
 have hm:(fn.results.mapM (Xin a.tmps) : Sem (Array Value)).run E.P w = .ok vs.toArray w:=by
  rw [← Array.toArray_toList (xs:=fn.results),List.mapM_toArray]
  simp only [Sem.run_map]
  rw [hrun]
  rfl
 rw [Xdh]
 simp only [Sem.run_bind]
 rw [hm]
 simp only [Result.andThen_ok,Sem.run_pure]
 match xs,vs,hlen,hrep with
 | [x],[v],_,hrep =>
  refine ⟨v,by simp,?_⟩
  simp only [Qan] at hrep
  obtain ⟨u,us,f1,f2,h1,h2,h3,h4,h5⟩:=hrep
  cases h1
  obtain ⟨rfl,rfl⟩:=List.append_eq_nil_iff.1 h2.symm
  exact h3
 | [],[],_,hrep=>exact ⟨.tuple #[],by simp,by simp only [one,repR];exact ⟨[],rfl,hrep⟩⟩
 | x :: y :: xs,v :: u :: vs,_,hrep =>
  refine ⟨.tuple (v :: u :: vs).toArray,by simp,?_⟩
  simp only [one,repR]
  exact ⟨_,rfl,hrep⟩
mutual
theorem Qwx {E:Env} {a:Act} {w:World} {κ:Nat} : ∀ (x:AV) (u:Value) (f ids:List Nat) (s:St) (χ:Nat→Option Nat) (hd:Nat→Value),Qd4 E s a w χ hd→repR w (Qbw χ w) (· ∈ s.us) (tab s hd) x u f→f.Nodup→(∀ b∈f,χ b=some κ)→(∀ b∈f,E.w0.heap.size≤b∨E.In b)→(∀ b∈f,¬ E.Jk b)→(∀ R i,s.root i=some R→i≠κ)→ids.Nodup→(∀ i∈ids,i ∉ s.us∧i≠κ) →
  ∃ χ' hd',Qnk E s (s.addL (rtf x ids).2.1) a w χ χ' hd hd' f∧repR w (Qbw χ' w) (· ∈ (s.addL (rtf x ids).2.1).us) (tab (s.addL (rtf x ids).2.1) hd') (rtf x ids).1 u []∧(rtf x ids).2.2.Nodup∧(∀ i∈(rtf x ids).2.2,i ∉ (s.addL (rtf x ids).2.1).us∧i≠κ)∧(∀ R i,(s.addL (rtf x ids).2.1).root i=some R→i≠κ)
 | .own T sz xs,u,f,i :: ids,s,χ,hd,h,hr,hn,hc,hw,hJ,hk,hin,hi=>by
  by_cases hz : 0<sz
  ·simp only [rtf,hz,if_true,St.addL]
   simp only [repR,rep] at hr
   obtain ⟨vs,f',ho,hr,rfl⟩:=hr
   obtain ⟨hi1,hi2⟩:=hi i List.mem_cons_self
   let ff:=u.ownBlock.toList++f'
   let χ':Nat→Option Nat:=fun b=>if b∈ff then some i else χ b
   have hiJ:i≠JJ:=by rintro rfl;exact hi1 h.jj
   have hfr : ∀ b,Qbw χ w b↔Qbw χ' w b:=by
    intro b
    have : χ' b=none↔χ b=none:=by
     simp only [χ']
     split
     ·rename_i hm;rw [hc b hm];simp
     ·rfl
    exact ⟨fun hb=>⟨this.2 hb.1,hb.2⟩,fun hb=>⟨this.1 hb.1,hb.2⟩⟩
   have h1:Qd4 E s a w χ' hd:=by
    refine ⟨h.defers,h.size,h.os,h.tape,h.output,h.hsz,h.frame,h.fx,h.jj,h.rj,?_,?_,?_,?_⟩
    ·intro b hb
     have:b ∉ ff:=fun hm=>hJ b hm hb
     simp only [χ',this,if_false];exact h.jk b hb
    ·intro b r hbr
     simp only [χ'] at hbr
     split at hbr
     ·rename_i hm
      exact ⟨fun _=>hw b hm,(h.col b κ (hc b hm)).2⟩
     ·exact h.col b r hbr
    ·intro j Q hQ
     obtain ⟨q1,fq,q2,q3,q4⟩:=h.rts j Q hQ
     refine ⟨q1,fq,q2.mono (fun b hb=>(hfr b).1 hb) (fun _ _=>rfl) (fun _ _=>rfl) (fun _ y=>y) (fun _ _ _ y=>y),q3,fun b hb=>?_⟩
     have hbj:=q4 b hb
     have:b ∉ ff:=fun hm=>by have:=hc b hm;rw [hbj] at this;cases this;exact hk Q κ hQ rfl
     simp only [χ',this,if_false];exact hbj
    ·intro t
     exact Qcx _ _ _ (h.slots t) (fun b hb=>(hfr b).1 hb) (fun _ _=>rfl) (fun _ _=>rfl) (fun _ y=>y) (fun _ _ _ y=>y)
   have h2:=h1.addRoot hi1 (R:=⟨T,sz,xs⟩) (v:=u) (fp:=ff) ⟨hz,vs,f',ho,Qjl _ _ _ (Qfp _ _ _ _ hr (fun b hb=>(hfr b).1 hb) (fun _ _=>rfl) (fun _ _=>rfl)),rfl⟩ hn (fun b hb=>by simp only [χ',hb,if_true])
   refine ⟨χ',_,⟨h2,hfr,fun b hb=>by simp only [χ',show b ∉ ff from hb,if_false],fun j hj=>List.mem_cons_of_mem _ hj,fun j hj=>?_⟩,?_,(List.nodup_cons.1 hin).2,?_,?_⟩
   ·have hne:j≠i:=fun e=>hi1 (e ▸ hj)
    simp [tab,St.root_add_ne s hne,hne]
   ·simp only [repR]
    refine ⟨trivial,List.mem_cons_self,?_⟩
    intro h' n' sz' hh
    simp [tab,St.root_add_same] at hh
    obtain ⟨rfl,rfl,rfl⟩:=hh
    exact ⟨by omega,Qm8 ho,Qkn ho⟩
   ·intro j hj
    obtain ⟨j1,j2⟩:=hi j (List.mem_cons_of_mem _ hj)
    refine ⟨?_,j2⟩
    show j ∉ i :: s.us
    rw [List.mem_cons]
    rintro (rfl | hm)
    ·exact (List.nodup_cons.1 hin).1 hj
    ·exact j1 hm
   ·intro R j hR
    by_cases hj:j=i
    ·subst hj;exact hi2
    ·rw [St.root_add_ne s hj] at hR;exact hk R j hR
  ·simp only [rtf,hz,if_false,St.addL]
   exact ⟨χ,hd,⟨h,fun _=>Iff.rfl,fun _ _=>rfl,fun _ y=>y,fun _ _=>rfl⟩,Qe0 u,hin,hi,hk⟩
 | .own _ _ _,u,f,[],s,χ,hd,h,hr,hn,hc,hw,hJ,hk,hin,hi=>by
  simp only [rtf,St.addL]
  exact ⟨χ,hd,⟨h,fun _=>Iff.rfl,fun _ _=>rfl,fun _ y=>y,fun _ _=>rfl⟩,Qe0 u,hin,hi,hk⟩
 | .agg cs,u,f,ids,s,χ,hd,h,hr,hn,hc,hw,hJ,hk,hin,hi=>by
  simp only [rtf]
  simp only [repR] at hr
  obtain ⟨vs,rfl,hr⟩:=hr
  obtain ⟨χ',hd',h1,h2,h3,h4,h5⟩:=Qqj cs vs f ids s χ hd h hr hn hc hw hJ hk hin hi
  exact ⟨χ',hd',h1,by simp only [repR];exact ⟨vs,rfl,h2⟩,h3,h4,h5⟩
 | .tup cs,u,f,ids,s,χ,hd,h,hr,hn,hc,hw,hJ,hk,hin,hi=>by
  simp only [rtf]
  simp only [repR] at hr
  obtain ⟨vs,rfl,hr⟩:=hr
  obtain ⟨χ',hd',h1,h2,h3,h4,h5⟩:=Qqj cs vs f ids s χ hd h hr hn hc hw hJ hk hin hi
  exact ⟨χ',hd',h1,by simp only [repR];exact ⟨vs,rfl,h2⟩,h3,h4,h5⟩
 | .fn _ _,u,f,ids,s,χ,hd,h,hr,hn,hc,hw,hJ,hk,hin,hi=>by
  simp only [rtf,St.addL]
  exact ⟨χ,hd,⟨h,fun _=>Iff.rfl,fun _ _=>rfl,fun _ y=>y,fun _ _=>rfl⟩,Qe0 u,hin,hi,hk⟩
 | .dead,u,f,ids,s,χ,hd,h,hr,hn,hc,hw,hJ,hk,hin,hi=>by
  simp only [rtf,St.addL]
  exact ⟨χ,hd,⟨h,fun _=>Iff.rfl,fun _ _=>rfl,fun _ y=>y,fun _ _=>rfl⟩,Qe0 u,hin,hi,hk⟩
 | .lit v,u,f,ids,s,χ,hd,h,hr,hn,hc,hw,hJ,hk,hin,hi=>by
  simp only [rtf,St.addL]
  have hf:f=[]:=by simp only [repR,rep] at hr;exact hr.1
  subst hf
  exact ⟨χ,hd,Qnk.refl h,hr,hin,hi,hk⟩
 | .ro sz xs,u,f,ids,s,χ,hd,h,hr,hn,hc,hw,hJ,hk,hin,hi=>by
  simp only [rtf,St.addL]
  have hf:f=[]:=by simp only [repR,rep] at hr;exact hr.1
  subst hf
  exact ⟨χ,hd,Qnk.refl h,hr,hin,hi,hk⟩
 | .rop cs o,u,f,ids,s,χ,hd,h,hr,hn,hc,hw,hJ,hk,hin,hi=>by
  simp only [rtf,St.addL]
  have hf:f=[]:=by simp only [repR,rep] at hr;exact hr.1
  subst hf
  exact ⟨χ,hd,Qnk.refl h,hr,hin,hi,hk⟩
 | .sl _ _ _,u,f,ids,s,χ,hd,h,hr,hn,hc,hw,hJ,hk,hin,hi=>by
  simp only [rtf,St.addL]
  have hf:f=[]:=by simp only [repR] at hr;exact hr.1
  subst hf
  exact ⟨χ,hd,Qnk.refl h,hr,hin,hi,hk⟩
 | .ptr _ _ _,u,f,ids,s,χ,hd,h,hr,hn,hc,hw,hJ,hk,hin,hi=>by
  simp only [rtf,St.addL]
  have hf:f=[]:=by simp only [repR] at hr;exact hr.1
  subst hf
  exact ⟨χ,hd,Qnk.refl h,hr,hin,hi,hk⟩
theorem Qqj {E:Env} {a:Act} {w:World} {κ:Nat} : ∀ (xs:List AV) (us:List Value) (f ids:List Nat) (s:St) (χ:Nat→Option Nat) (hd:Nat→Value),Qd4 E s a w χ hd→Qan w (Qbw χ w) (· ∈ s.us) (tab s hd) xs us f→f.Nodup→(∀ b∈f,χ b=some κ)→(∀ b∈f,E.w0.heap.size≤b∨E.In b)→(∀ b∈f,¬ E.Jk b)→(∀ R i,s.root i=some R→i≠κ)→ids.Nodup→(∀ i∈ids,i ∉ s.us∧i≠κ) →
  ∃ χ' hd',Qnk E s (s.addL (Qpw xs ids).2.1) a w χ χ' hd hd' f∧Qan w (Qbw χ' w) (· ∈ (s.addL (Qpw xs ids).2.1).us) (tab (s.addL (Qpw xs ids).2.1) hd') (Qpw xs ids).1 us []∧(Qpw xs ids).2.2.Nodup∧(∀ i∈(Qpw xs ids).2.2,i ∉ (s.addL (Qpw xs ids).2.1).us∧i≠κ)∧(∀ R i,(s.addL (Qpw xs ids).2.1).root i=some R→i≠κ)
 | [],us,f,ids,s,χ,hd,h,hr,hn,hc,hw,hJ,hk,hin,hi=>by
  simp only [Qan] at hr
  obtain ⟨rfl,rfl⟩:=hr
  simp only [Qpw,St.addL]
  exact ⟨χ,hd,Qnk.refl h,by simp [Qan],hin,hi,hk⟩
 | x :: xs,us,f,ids,s,χ,hd,h,hr,hn,hc,hw,hJ,hk,hin,hi=>by
  simp only [Qan] at hr
  obtain ⟨u,us',f1,f2,rfl,rfl,hr1,hr2⟩:=hr
  rw [List.nodup_append] at hn
  obtain ⟨χ1,hd1,n1,r1,d1,i1,k1⟩:=Qwx x u f1 ids s χ hd h hr1 hn.1 (fun b hb=>hc b (by simp [hb])) (fun b hb=>hw b (by simp [hb])) (fun b hb=>hJ b (by simp [hb])) hk hin hi
  have hr2':Qan w (Qbw χ1 w) (· ∈ (s.addL (rtf x ids).2.1).us) (tab (s.addL (rtf x ids).2.1) hd1) xs us' f2:=Qec _ _ _ hr2 (fun b hb=>(n1.fr b).1 hb) (fun _ _=>rfl) (fun _ _=>rfl) n1.us (fun i hi y hy=>by rwa [n1.tb i hi] at hy)
  obtain ⟨χ2,hd2,n2,r2,d2,i2,k2⟩:=Qqj xs us' f2 (rtf x ids).2.2 _ χ1 hd1 n1.rel hr2' hn.2.1 (fun b hb=>by rw [n1.other b (fun hb1=>hn.2.2 b hb1 b hb rfl)];exact hc b (by simp [hb])) (fun b hb=>hw b (by simp [hb])) (fun b hb=>hJ b (by simp [hb])) k1 d1 i1
  simp only [Qpw,St.addL_append]
  refine ⟨χ2,hd2,⟨n2.rel,fun b=>(n1.fr b).trans (n2.fr b),fun b hb=>?_,fun j hj=>n2.us j (n1.us j hj),fun j hj=>(n2.tb j (n1.us j hj)).trans (n1.tb j hj)⟩,?_,d2,i2,k2⟩
  ·rw [List.mem_append,not_or] at hb
   rw [n2.other b hb.2,n1.other b hb.1]
  ·simp only [Qan]
   exact ⟨u,us',[],[],rfl,rfl,n2.repR r1,r2⟩
end
end Go.T
set_option linter.unusedVariables false
namespace Go.T
open Go Go.RowKit Go.Proofs
def hdT (rs:List Qas) (hd:Nat→Value) : Tab:=fun i=>(rs[i]?).map fun R=>(hd i,R.xs.length,R.sz)
def Qo1 (P:Program) (f:FuncId) (rs:List Qas) (args:List AV) (ks:List Bool) (rs':List Qas) (res:AV) : Prop:=
  Enters P f∧∀ (w:World) (S:Nat→Prop) (hd:Nat→Value) (fp:Nat→List Nat) (vals:List Value),
    (∀ i R,rs[i]? = some R→0<R.sz∧Row w R.T R.sz (hd i) R.xs (fp i)∧(fp i).Nodup)→(∀ i,rs[i]? = none→fp i=[]) →
    (∀ i j b,b∈fp i→b∈fp j→i=j)→(∀ i b,b∈fp i→¬ S b)→(∀ b,S b→b<w.heap.size) →
    Qan w S (fun i=>i<rs.length) (hdT rs hd) args vals [] →
    Calls P f vals.toArray w (fun e w' => ∃ (v:Value) (fp':Nat→List Nat) (g:List Nat),e = .returned v∧w'.os=w.os∧Tp w w'∧w'.output=w.output∧w.heap.size≤w'.heap.size ∧
      (∀ k,k<w.heap.size→(∀ i,k ∉ fp i)→w'.heap[k]? = w.heap[k]?) ∧
      (∀ i R',rs'[i]? = some R'→ks[i]? = some true→Row w' R'.T R'.sz (hd i) R'.xs (fp' i)∧(fp' i).Nodup) ∧
      (∀ i,ks[i]? ≠ some true→fp' i=[])∧(∀ i b,b∈fp' i→(∃ j,b∈fp j)∨w.heap.size≤b) ∧
      repR w' NS (fun i=>ks[i]? = some true) (hdT rs' hd) res v g∧g.Nodup∧(∀ b∈g,((∃ j,b∈fp j)∨w.heap.size≤b)∧b<w'.heap.size) ∧
      (∀ i j b,b∈fp' i→b∈fp' j→i=j)∧(∀ i b,b∈fp' i→b ∉ g∧b<w'.heap.size))
def Qlq (X:PK) (f:FuncId) (rs:List Qas) (args:List AV) (ks:List Bool) (rs':List Qas) (res:AV) : Prop:=
  Enters X.p f∧∀ (w:World) (S:Nat→Prop) (hd:Nat→Value) (fp:Nat→List Nat) (vals:List Value),
    (∀ i R,rs[i]? = some R→0<R.sz∧Row w R.T R.sz (hd i) R.xs (fp i)∧(fp i).Nodup)→(∀ i,rs[i]? = none→fp i=[]) →
    (∀ i j b,b∈fp i→b∈fp j→i=j)→(∀ i b,b∈fp i→¬ S b)→(∀ b,S b→b<w.heap.size) →
    Qan w S (fun i=>i<rs.length) (hdT rs hd) args vals [] →
    X.K.k (fun b=>b<w.heap.size∧∀ i,b ∉ fp i) w →
    Calls X.p f vals.toArray w (fun e w' => ∃ (v:Value) (fp':Nat→List Nat) (g:List Nat),e = .returned v∧w'.os=w.os∧Tp w w'∧w'.output=w.output∧w.heap.size≤w'.heap.size ∧
      (∀ k,k<w.heap.size→(∀ i,k ∉ fp i)→w'.heap[k]? = w.heap[k]?) ∧
      (∀ i R',rs'[i]? = some R'→ks[i]? = some true→Row w' R'.T R'.sz (hd i) R'.xs (fp' i)∧(fp' i).Nodup) ∧
      (∀ i,ks[i]? ≠ some true→fp' i=[])∧(∀ i b,b∈fp' i→(∃ j,b∈fp j)∨w.heap.size≤b) ∧
      repR w' NS (fun i=>ks[i]? = some true) (hdT rs' hd) res v g∧g.Nodup∧(∀ b∈g,((∃ j,b∈fp j)∨w.heap.size≤b)∧b<w'.heap.size) ∧
      (∀ i j b,b∈fp' i→b∈fp' j→i=j)∧(∀ i b,b∈fp' i→b ∉ g∧b<w'.heap.size))
theorem mK {X:PK} {f:FuncId} {rs:List Qas} {args:List AV} {ks:List Bool} {rs':List Qas} {res:AV} (h:Qo1 X.p f rs args ks rs' res) : Qlq X f rs args ks rs' res:=
 ⟨h.1,fun w S hd fp vals h1 h2 h3 h4 h5 h6 _=>h.2 w S hd fp vals h1 h2 h3 h4 h5 h6⟩
mutual
def Qjv (s:St) (π:List (Nat×Nat)) : AV→Option AV
 | .lit v=>some (.lit v)
 | .ro sz xs=>some (.ro sz xs)
 | .rop cs o=>some (.rop cs o)
 | .sl i off len=>match π.lookup i with
  | some j=>some (.sl j off len)
  | none=>match s.root i with
   | some R=>if Qa2 ((R.xs.drop off).take len) then some (.ro R.sz (Qqd ((R.xs.drop off).take len))) else none
   | none=>none
 | .ptr i e o=>match π.lookup i with
  | some j=>some (.ptr j e o)
  | none=>match s.root i with
   | some R=>match R.xs[e]? with
    | some x=>if Qcy x then some (.rop (Qjr x) o) else none
    | none=>none
   | none=>none
 | .agg cs=>match Qk4 s π cs with
  | some ds=>some (.agg ds)
  | none=>none
 | .fn g cs=>match Qk4 s π cs with
  | some ds=>some (.fn g ds)
  | none=>none
 | _=>none
def Qk4 (s:St) (π:List (Nat×Nat)) : List AV→Option (List AV)
 | []=>some []
 | c :: cs=>match Qjv s π c,Qk4 s π cs with
  | some d,some ds=>some (d :: ds)
  | _,_=>none
end
section
variable {E:Env} {s:St} {a:Act} {w:World} {χ:Nat→Option Nat} {hd:Nat→Value} {π:List (Nat×Nat)} {S2 U:Nat→Prop} {ρ:Tab}
mutual
theorem Xdr (h:Qd4 E s a w χ hd) (hS : ∀ b,Qbw χ w b→S2 b) (hS2 : ∀ i R b,s.root i=some R→π.lookup i=none→χ b=some i→S2 b) (hU : ∀ i j,π.lookup i=some j→U j) (hρ : ∀ i j,π.lookup i=some j→ρ j=tab s hd i) :
  ∀ (x y:AV) (u:Value) (f:List Nat),repR w (Qbw χ w) (· ∈ s.us) (tab s hd) x u f→f=[]→Qjv s π x=some y→repR w S2 U ρ y u []
 | .lit v,y,u,f,hr,hf,he=>by simp only [Qjv] at he;cases he;simp only [repR] at hr ⊢; subst hf;exact Qc1 _ _ _ hr hS (fun _ _=>rfl) (by simp)
 | .ro sz xs,y,u,f,hr,hf,he=>by simp only [Qjv] at he;cases he;simp only [repR] at hr ⊢; subst hf;exact Qc1 _ _ _ hr hS (fun _ _=>rfl) (by simp)
 | .rop cs o,y,u,f,hr,hf,he=>by simp only [Qjv] at he;cases he;simp only [repR] at hr ⊢; subst hf;exact Qc1 _ _ _ hr hS (fun _ _=>rfl) (by simp)
 | .sl i off len,y,u,f,hr,hf,he=>by
  simp only [Qjv] at he
  split at he
  ·rename_i j hj
   cases he
   simp only [repR] at hr ⊢
   exact ⟨trivial,hU _ _ hj,fun a b c hh=>hr.2.2 a b c (by rw [← hρ _ _ hj];exact hh)⟩
  ·rename_i hπ
   split at he
   case h_2=>cases he
   rename_i R hR
   split at he
   case isFalse=>cases he
   rename_i ht
   cases he
   simp only [repR] at hr
   obtain ⟨_,_,hr⟩:=hr
   obtain ⟨hle,hu,_⟩:=hr (hd i) R.xs.length R.sz (by simp [tab,hR])
   obtain ⟨A,cap,vs,g,rfl,hcap,hrr,hg,hA⟩:=Qxo h hR hle hu
   have hlen:((R.xs.drop off).take len).length=len:=by rw [List.length_take,List.length_drop];omega
   have hz:=Qr8 (S2:=S2) _ _ _ _ (Qfv _ _ _ hrr ht) hS (fun b hb=>hS2 i R b hR hπ (hg b hb))
   simp only [repR,rep]
   refine ⟨trivial,A,cap,by rw [Qgl,hlen],by rw [Qgl,hlen];exact hcap,?_⟩
   by_cases hl:len=0
   ·left;exact Xaa (by rw [hl,List.take_zero])
   ·obtain ⟨b,rfl,hat,hcb⟩:=hA (by omega)
    exact .inr ⟨b,_,vs,rfl,hS2 i R b hR hπ hcb,hat,hz⟩
 | .ptr i e o,y,u,f,hr,hf,he=>by
  simp only [Qjv] at he
  split at he
  ·rename_i j hj
   cases he
   simp only [repR] at hr ⊢
   exact ⟨trivial,hU _ _ hj,fun a b c hh=>hr.2.2 a b c (by rw [← hρ _ _ hj];exact hh)⟩
  ·rename_i hπ
   split at he
   case h_2=>cases he
   rename_i R hR
   split at he
   case h_2=>cases he
   rename_i x hx
   split at he
   case isFalse=>cases he
   rename_i ht
   cases he
   simp only [repR] at hr
   obtain ⟨_,_,hr⟩:=hr
   obtain ⟨hlt,b,m,c,hh,rfl⟩:=hr (hd i) R.xs.length R.sz (by simp [tab,hR])
   obtain ⟨_,fp,⟨hz,vs,fp',hown,hrep,rfl⟩,_,hcol⟩:=h.rts i R hR
   obtain ⟨v1,us,v2,f1,fe,f2,rfl,rfl,hl1,hlus,h1c,k1,kx,k2⟩:=Qhc hrep hx
   have hat:=Qil hown (b:=b) (by rw [hh];rfl)
   have hz:=Qmv (S2:=S2) _ _ _ (Qek _ _ _ kx ht) hS (fun b hb=>hS2 i R b hR hπ (hcol b (by simp [hb])))
   simp only [repR,rep]
   refine ⟨trivial,b,e * R.sz,us,rfl,hS2 i R b hR hπ (hcol b (by rw [hh];simp [Value.ownBlock])),?_,hz⟩
   intro k v hk
   have hkl:k<us.length:=(List.getElem?_eq_some_iff.1 hk).1
   have:=hat (e * R.sz+k) v (by rw [List.append_assoc,List.getElem?_append_right (by omega),show e * R.sz+k - v1.length=k by omega,List.getElem?_append_left hkl];exact hk)
   simpa using this
 | .agg cs,y,u,f,hr,hf,he=>by
  simp only [Qjv] at he
  split at he
  case h_2=>cases he
  rename_i ds hds
  cases he
  simp only [repR] at hr ⊢
  obtain ⟨vs,rfl,hr⟩:=hr
  exact ⟨vs,rfl,Qmi h hS hS2 hU hρ cs ds vs f hr hf hds⟩
 | .fn g cs,y,u,f,hr,hf,he=>by
  simp only [Qjv] at he
  split at he
  case h_2=>cases he
  rename_i ds hds
  cases he
  simp only [repR] at hr ⊢
  obtain ⟨vs,rfl,hr⟩:=hr
  exact ⟨vs,rfl,Qmi h hS hS2 hU hρ cs ds vs f hr hf hds⟩
 | .dead,y,u,f,hr,hf,he=>by simp [Qjv] at he
 | .own _ _ _,y,u,f,hr,hf,he=>by simp [Qjv] at he
 | .tup _,y,u,f,hr,hf,he=>by simp [Qjv] at he
theorem Qmi (h:Qd4 E s a w χ hd) (hS : ∀ b,Qbw χ w b→S2 b) (hS2 : ∀ i R b,s.root i=some R→π.lookup i=none→χ b=some i→S2 b) (hU : ∀ i j,π.lookup i=some j→U j) (hρ : ∀ i j,π.lookup i=some j→ρ j=tab s hd i) :
  ∀ (xs ys:List AV) (us:List Value) (f:List Nat),Qan w (Qbw χ w) (· ∈ s.us) (tab s hd) xs us f→f=[]→Qk4 s π xs=some ys→Qan w S2 U ρ ys us []
 | [],ys,us,f,hr,hf,he=>by simp only [Qk4] at he;cases he;simp only [Qan] at hr ⊢; exact ⟨hr.1,trivial⟩
 | c :: cs,ys,us,f,hr,hf,he=>by
  simp only [Qk4] at he
  split at he
  case h_2=>cases he
  rename_i d ds h1 h2
  cases he
  simp only [Qan] at hr ⊢
  obtain ⟨u,us',f1,f2,rfl,hf',k1,k2⟩:=hr
  rw [hf] at hf'
  obtain ⟨e1,e2⟩:=List.append_eq_nil_iff.1 hf'.symm
  exact ⟨u,us',[],[],rfl,rfl,Xdr h hS hS2 hU hρ c d u f1 k1 e1 h1,Qmi h hS hS2 hU hρ cs ds us' f2 k2 e2 h2⟩
end
end
def St.back (s:St) (bk:List (Nat×Option Qas)) : St:={ s with rt:=bk++s.rt }
def Qqw:List Nat→List Bool→List Qas→List (Nat×Option Qas)
 | i :: ρ,k :: ks,R :: rs=>(i,if k then some R else none) :: Qqw ρ ks rs
 | _,_,_=>[]
def Qs1:List Qas→List Qas→Bool
 | R :: rs,R' :: rs'=>decide (R'.T=R.T) && decide (R'.sz=R.sz) && Qs1 rs rs'
 | [],[]=>true
 | _,_=>false
def Xdj:List Qas→List Qas→Prop
 | R :: rs,R' :: rs'=>R'.xs.length=R.xs.length∧Xdj rs rs'
 | _,_=>True
theorem Qys : ∀ {rs rs':List Qas} {i:Nat} {R R':Qas},Qs1 rs rs'=true→rs[i]? = some R→rs'[i]? = some R'→R'.T=R.T∧R'.sz=R.sz
 | [],_,i,R,R',h,h1,_=>by simp at h1
 | _ :: _,[],i,R,R',h,_,h2=>by simp at h2
 | X :: rs,X' :: rs',0,R,R',h,h1,h2=>by
  simp only [Qs1,Bool.and_eq_true,decide_eq_true_eq] at h
  simp at h1 h2;subst h1;subst h2;exact h.1
 | X :: rs,X' :: rs',i+1,R,R',h,h1,h2=>by
  simp only [Qs1,Bool.and_eq_true] at h
  exact Qys h.2 (by simpa using h1) (by simpa using h2)
theorem Xa0 : ∀ {rs rs':List Qas},Qs1 rs rs'=true→rs'.length=rs.length
 | [],[],_=>rfl
 | [],_ :: _,h=>by simp [Qs1] at h
 | _ :: _,[],h=>by simp [Qs1] at h
 | X :: rs,X' :: rs',h=>by
  simp only [Qs1,Bool.and_eq_true] at h
  simp [Xa0 h.2]
theorem Xd0 : ∀ {rs rs':List Qas} {i:Nat} {R R':Qas},Xdj rs rs'→rs[i]? = some R→rs'[i]? = some R'→R'.xs.length=R.xs.length
 | [],_,i,R,R',h,h1,_=>by simp at h1
 | _ :: _,[],i,R,R',h,_,h2=>by simp at h2
 | X :: rs,X' :: rs',0,R,R',h,h1,h2=>by simp at h1 h2;subst h1;subst h2;exact h.1
 | X :: rs,X' :: rs',i+1,R,R',h,h1,h2=>Xd0 h.2 (by simpa using h1) (by simpa using h2)
def Qt2 (s:St) : List Nat→List Qas→Prop
 | i :: ρ,R :: rs=>s.root i=some R∧Qt2 s ρ rs
 | [],[]=>True
 | _,_=>False
theorem Qze {s:St} : ∀ {ρ:List Nat} {rs:List Qas},Qt2 s ρ rs→ρ.length=rs.length∧∀ (k i:Nat),ρ[k]? = some i→∃ R,rs[k]? = some R∧s.root i=some R
 | [],[],_=>⟨rfl,by simp⟩
 | [],_ :: _,h=>h.elim
 | _ :: _,[],h=>h.elim
 | i :: ρ,R :: rs,h=>by
  obtain ⟨h1,h2⟩:=Qze h.2
  refine ⟨by simp [h1],?_⟩
  intro k j hk
  cases k with
  | zero=>simp at hk;subst hk;exact ⟨R,rfl,h.1⟩
  | succ k=>simpa using h2 k j (by simpa using hk)
theorem Xa1 : ∀ {ρ:List Nat} {ks:List Bool} {rs:List Qas} {i:Nat},i ∉ ρ→(Qqw ρ ks rs).lookup i=none
 | [],_,_,i,_=>by simp [Qqw]
 | _ :: _,[],_,i,_=>by simp [Qqw]
 | _ :: _,_ :: _,[],i,_=>by simp [Qqw]
 | j :: ρ,k :: ks,R :: rs,i,h=>by
  simp only [Qqw]
  rw [Qal (by intro e;exact h (e ▸ List.mem_cons_self))]
  exact Xa1 (fun hm=>h (List.mem_cons_of_mem _ hm))
theorem Xek : ∀ {ρ:List Nat} {ks:List Bool} {rs:List Qas},ρ.Nodup→ks.length=ρ.length→rs.length=ρ.length→∀ {k i:Nat},ρ[k]? = some i→∃ R b,rs[k]? = some R∧ks[k]? = some b∧(Qqw ρ ks rs).lookup i=some (if b then some R else none)
 | [],_,_,_,_,_,k,i,h=>by simp at h
 | _ :: _,[],_,_,h,_,k,i,_=>by simp at h
 | _ :: _,_ :: _,[],_,_,h,k,i,_=>by simp at h
 | j :: ρ,b :: ks,R :: rs,hn,h1,h2,k,i,h=>by
  cases k with
  | zero=>simp at h;subst h;exact ⟨R,b,rfl,rfl,by simp only [Qqw,Qb0]⟩
  | succ k =>
   have hk : ρ[k]? = some i:=by simpa using h
   have hne:i≠j:=by
    rintro rfl
    exact (List.nodup_cons.1 hn).1 (List.mem_of_getElem? hk)
   obtain ⟨R',b',e1,e2,e3⟩:=Xek (List.nodup_cons.1 hn).2 (by simpa using h1) (by simpa using h2) hk
   exact ⟨R',b',by simpa using e1,by simpa using e2,by simp only [Qqw];rw [Qal hne];exact e3⟩
theorem Qmd (s:St) (bk:List (Nat×Option Qas)) (i:Nat) : (s.back bk).root i=((bk.lookup i).getD (s.root i)):=by
 simp only [St.root,St.back,List.lookup_append]
 cases bk.lookup i <;> rfl
theorem Qzw : ∀ {ρ:List Nat},ρ.Nodup→∀ {i j x:Nat},ρ[i]? = some x→ρ[j]? = some x→i=j
 | [],_,i,j,x,h,_=>by simp at h
 | y :: ρ,hn,i,j,x,h1,h2=>by
  rw [List.nodup_cons] at hn
  cases i with
  | zero =>
   cases j with
   | zero=>rfl
   | succ j =>
    simp at h1 h2;subst h1
    exact absurd (List.mem_of_getElem? h2) hn.1
  | succ i =>
   cases j with
   | zero =>
    simp at h1 h2;subst h2
    exact absurd (List.mem_of_getElem? h1) hn.1
   | succ j =>
    have:=Qzw (i:=i) (j:=j) (x:=x) hn.2 (by simpa using h1) (by simpa using h2)
    rw [this]
theorem Qmp {ρ:List Nat} (hn : ρ.Nodup) {i j:Nat} : ρ.zipIdx.lookup i=some j↔ρ[j]? = some i:=by
 constructor
 ·intro h
  have:=Qbf h
  have:=List.mem_zipIdx_iff_getElem?.1 this
  exact this
 ·intro h
  have hm:(i,j)∈ρ.zipIdx:=List.mem_zipIdx_iff_getElem?.2 h
  refine Qht ?_ hm
  have : ρ.zipIdx.map Prod.fst=ρ:=by simp
  show (ρ.zipIdx.map Prod.fst).Nodup
  rw [this];exact hn
end Go.T
