/- Lemmas for FnLayers; no condition. -/

import Derived.Test.YtdmmaanagmacjaaTK
import Derived.Orders
import Derived.StillTail
set_option linter.unusedVariables false
namespace Go.T
open Go Go.RowKit Go.Proofs
@[irreducible] def gd (p:Bool) (r:AV) : AV:=if p=true then r else .lit undef
section
variable {E:Env} {Θ:Tys} {s:St}
end
section
variable {E:Env} {Θ:Tys} {ops:Array Oper} {o:Oper} {rest:List Oper} {sl:List (Nat×AV)} {rt:List (Nat×Option Qae)} {us:List Nat} {K:St→Prop}
end
section
variable {Θ:Tys} {s:St} {id:Nat}
end
section
variable {E:Env} {s:St} {Q:Exit→St→Prop} {k:St→Prop}
end
end Go.T
set_option linter.unusedVariables false
namespace Go.T
open Go Go.RowKit Go.Proofs
def AV.nd:AV→Bool
 | .dead=>false
 | _=>true
def Qrx (sl sl2:List (Nat×AV)) : Prop:=∀ t c,sl.lookup t=some c→c.nd=true→sl2.lookup t=some c
theorem Que {sl sl2:List (Nat×AV)} {rt:List (Nat×Option Qae)} {us:List Nat} (h:Qrx sl sl2) {t:Nat} {c:AV} (hg:St.get ⟨sl,rt,us⟩ t=c) (hn:c.nd=true) : St.get ⟨sl2,rt,us⟩ t=c:=by
 simp only [St.get] at hg ⊢
 cases hl:sl.lookup t with
 | none=>rw [hl] at hg;simp only [Option.getD_none] at hg;subst hg;cases hn
 | some c'=>rw [hl] at hg;simp only [Option.getD_some] at hg;subst hg;rw [h _ _ hl hn];rfl
def VTo (E:Env) (ops:Array Oper) (o:Oper) (sl:List (Nat×AV)) (rt:List (Nat×Option Qae)) (us:List Nat) (d:Nat) (r:AV) : Prop:=
 ∀ sl2,Qrx sl sl2→∀ a w (Q:Exit→Act→World→Prop) (K:Act→World→Prop),Rel E ⟨sl2,rt,us⟩ a w→(∀ a' w',Rel E ⟨(d,r) :: sl2,rt,us⟩ a' w'→K a' w') →
  (if Region.wanted o (yielded ops a.tmps) then o.wp E.P a w K Q∨(o.asks E.P a w∧LetsOut Q) else K (a.put o.dst undef) w)
def Qc6 (ops:List Oper) (done:List (Nat×AV)) (o:Oper) : List (Nat×AV):=
 o.after.toList.filterMap fun e=>if Region.binds .any e then ((ops[e.on]?).bind (·.dst)).bind fun d=>(done.lookup d).map fun r=>(d,r) else none
def Qfx (ops:List Oper) : List (Nat×AV):=ops.filterMap fun o=>o.dst.map fun d=>(d,.dead)
inductive DWs (E:Env) (ops:Array Oper) (sl:List (Nat×AV)) (rt:List (Nat×Option Qae)) (us:List Nat) : List Oper→List (Nat×AV)→Prop
 | nil:DWs E ops sl rt us [] []
 | snoc {hd:List Oper} {done:List (Nat×AV)} {o:Oper} {d:Nat} {r:AV}:DWs E ops sl rt us hd done→o.dst=some d→VTo E ops o (Qc6 ops.toList done o++(Qfx ops.toList++sl)) rt us d r→DWs E ops sl rt us (hd++[o]) ((d,r) :: done)
def Qbn (o:Oper) : List Nat:=o.after.toList.filterMap fun e=>if Region.binds .any e then some e.on else none
def Qui (ops:List Oper) (m:Nat) : Bool:=((ops.take m).zipIdx.all fun p=>(Qbn p.1).all fun j=>decide (j<p.2)) && decide (((ops.take m).filterMap (·.dst)).Nodup) && (ops.take m).all (·.dst.isSome) && decide (m≤ops.length)
def Xfo (ops:List Oper) (m:Nat) : Bool:=(ops.zipIdx.drop m).all fun p=>(List.range p.2).all fun j=>(Qbn p.1).contains j
def Qlo (n m:Nat) : Array Bool:=(List.replicate m true++List.replicate (n - m) false).toArray
theorem Qkp {f g:Nat→Bool} {i:Nat} : ∀ {l:List Nat},l.Nodup→i∈l→f i=true→g i=false→(∀ j,j≠i→g j=f j)→l.countP g+1=l.countP f
 | [],_,h,_,_,_=>by cases h
 | x :: l,hn,hi,hf,hg,ho=>by
  rw [List.nodup_cons] at hn
  rcases List.mem_cons.1 hi with e | e
  ·subst e
   rw [List.countP_cons,List.countP_cons,hf,hg]
   have:l.countP g=l.countP f:=List.countP_congr (fun j hj=>by rw [ho j (fun e=>hn.1 (e ▸ hj))])
   simp [this]
  ·have hx:x≠i:=fun h=>hn.1 (h ▸ e)
   rw [List.countP_cons,List.countP_cons,ho x hx]
   have:=Qkp hn.2 e hf hg ho
   omega
theorem Xcz {o:Oper} {j:Nat} (h:j∈Qbn o) : ∃ e∈o.after,Region.binds .any e=true∧e.on=j:=by
 simp only [Qbn,List.mem_filterMap] at h
 obtain ⟨e,he,h⟩:=h
 split at h
 ·cases h;exact ⟨e,by simpa using he,by assumption,rfl⟩
 ·cases h
theorem Qjx {ops:Array Oper} {listed:Array Bool} {i:Nat} (hs:listed.size=ops.size) : i∈Region.ready .any ops listed↔∃ o,ops[i]? = some o∧listed.getD i false=false∧∀ j∈Qbn o,listed.getD j false=true:=by
 unfold Region.ready
 simp only [List.mem_filter,List.mem_range,Bool.and_eq_true,Bool.not_eq_true']
 constructor
 ·rintro ⟨hi,h1,h2⟩
  refine ⟨ops[i],by simp [hi],?_,?_⟩
  ·rw [Array.getD_eq_getD_getElem?] at h1 ⊢
   rw [Array.getElem?_eq_getElem (by omega)] at h1 ⊢
   simpa using h1
  ·intro j hj
   obtain ⟨e,he,hb,rfl⟩:=Xcz hj
   rw [Array.getElem?_eq_getElem hi] at h2
   simp only [Option.map_some,Option.getD_some,Array.all_eq_true_iff_forall_mem] at h2
   have:=h2 e he
   simpa [hb] using this
 ·rintro ⟨o,ho,h1,h2⟩
  obtain ⟨hi,rfl⟩:=Array.getElem?_eq_some_iff.1 ho
  refine ⟨hi,?_,?_⟩
  ·rw [Array.getD_eq_getD_getElem?] at h1 ⊢
   rw [Array.getElem?_eq_getElem (by omega)] at h1 ⊢
   simpa using h1
  ·rw [Array.getElem?_eq_getElem hi]
   simp only [Option.map_some,Option.getD_some,Array.all_eq_true_iff_forall_mem]
   intro e he
   cases hb:Region.binds .any e with
   | false=>rfl
   | true =>
    simp only [Bool.not_true,Bool.false_or]
    refine h2 _ ?_
    simp only [Qbn,List.mem_filterMap]
    exact ⟨e,by simpa using he,by rw [if_pos hb]⟩
def Xjh (E:Env) (l:List Oper) (m:Nat) (sl:List (Nat×AV)) (rt:List (Nat×Option Qae)) (us:List Nat) (rd:List (Nat×AV)) (listed:Array Bool) (a:Act) (w:World) : Prop:=
 ∃ sl2,Rel E ⟨sl2,rt,us⟩ a w∧(∀ j o d r,j<m→l[j]? = some o→listed.getD j false=true→o.dst=some d→rd.lookup d=some r→r.nd=true→sl2.lookup d=some r)∧(∀ t c,rd.lookup t=none→sl.lookup t=some c→c.nd=true→sl2.lookup t=some c)
def DOne (E:Env) (l:List Oper) (m:Nat) (sl:List (Nat×AV)) (rt:List (Nat×Option Qae)) (us:List Nat) (rd:List (Nat×AV)) : Prop:=
 ∀ i o,i<m→l[i]? = some o→∃ d r,o.dst=some d∧rd.lookup d=some r∧VTo E l.toArray o (Qc6 l rd o++(Qfx l++sl)) rt us d r
theorem Qau {β:Type} : ∀ (l r:List (Nat×β)) (t:Nat) (c : β),(l++r).lookup t=some c→l.lookup t=some c∨l.lookup t=none∧r.lookup t=some c
 | [],r,t,c,h=>.inr ⟨rfl,h⟩
 | (i,x) :: l,r,t,c,h=>by
  by_cases e:t=i
  ·subst e;rw [List.cons_append,Qan] at h;rw [Qan];exact .inl h
  ·rw [List.cons_append,Qaf e] at h;rw [Qaf e];exact Qau l r t c h
theorem Qb6 {β:Type} : ∀ {l:List (Nat×β)} {t:Nat} {c : β},l.lookup t=some c→(t,c)∈l
 | [],_,_,h=>by simp at h
 | (i,x) :: l,t,c,h=>by
  by_cases e:t=i
  ·subst e;rw [Qan] at h;cases h;exact List.mem_cons_self
  ·rw [Qaf e] at h;exact List.mem_cons_of_mem _ (Qb6 h)
theorem Qe4 {β:Type} : ∀ {l:List (Nat×β)} {t:Nat} {c : β},(t,c)∈l→∃ c',l.lookup t=some c'
 | (i,x) :: l,t,c,h=>by
  by_cases e:t=i
  ·subst e;exact ⟨x,Qan _ _ _⟩
  ·rw [Qaf e]
   rcases List.mem_cons.1 h with h | h
   ·cases h;exact absurd rfl e
   ·exact Qe4 h
theorem Xcx {E:Env} {l:List Oper} {m:Nat} {sl:List (Nat×AV)} {rt:List (Nat×Option Qae)} {us:List Nat} {rd:List (Nat×AV)} (hone:DOne E l m sl rt us rd) (hdist : ∀ i j oi oj d,i<m→j<m→l[i]? = some oi→l[j]? = some oj→oi.dst=some d→oj.dst=some d→i=j)
  (hrd : ∀ d r,rd.lookup d=some r→∃ j o,j<m∧l[j]? = some o∧o.dst=some d) (hedge : ∀ i o,i<m→l[i]? = some o→∀ j∈Qbn o,j<i)
  {Q:Exit→Act→World→Prop} {K:Act→World→Prop} {listed:Array Bool} {a:Act} {w:World} {i:Nat} {o:Oper} (hi:i<m) (ho:l[i]? = some o) (hready : ∀ j∈Qbn o,listed.getD j false=true) (hsz:i<listed.size) (hinv:Xjh E l m sl rt us rd listed a w)
  (hk : ∀ a' w',Xjh E l m sl rt us rd (listed.setIfInBounds i true) a' w'→K a' w') : wpOp E.P l.toArray Q i K a w:=by
 obtain ⟨sl2,hr,hA,hB⟩:=hinv
 obtain ⟨d,r,hd,hrr,hv⟩:=hone i o hi ho
 have ho':l.toArray[i]? = some o:=by simpa using ho
 unfold wpOp
 rw [ho']
 refine hv sl2 ?_ a w Q K hr (fun a' w' hr'=>hk a' w' ⟨_,hr',?_,?_⟩)
 ·intro t c ht hn
  rcases Qau _ _ _ _ ht with h | ⟨h0,h⟩
  ·have hm:=Qb6 h
   simp only [Qc6,List.mem_filterMap] at hm
   obtain ⟨e,he,hm⟩:=hm
   split at hm
   case isFalse=>cases hm
   rename_i hb
   obtain ⟨d',hd',hm⟩:=Option.bind_eq_some_iff.1 hm
   obtain ⟨oj,hoj,hdj⟩:=Option.bind_eq_some_iff.1 hd'
   obtain ⟨r',hr',hm⟩:=Option.map_eq_some_iff.1 hm
   cases hm
   have hej:e.on∈Qbn o:=by
    simp only [Qbn,List.mem_filterMap]
    exact ⟨e,he,by rw [if_pos hb]⟩
   have hlt:e.on<m:=Nat.lt_trans (hedge i o hi ho _ hej) hi
   exact hA e.on oj _ _ hlt hoj (hready _ hej) hdj hr' hn
  ·rcases Qau _ _ _ _ h with h | ⟨h1,h⟩
   ·have hm:=Qb6 h
    simp only [Qfx,List.mem_filterMap] at hm
    obtain ⟨_,_,hm⟩:=hm
    obtain ⟨_,_,hm⟩:=Option.map_eq_some_iff.1 hm
    cases hm
    cases hn
   ·refine hB t c ?_ h hn
    cases hl:rd.lookup t with
    | none=>rfl
    | some r' =>
     obtain ⟨j,oj,hj,hoj,hdj⟩:=hrd _ _ hl
     have:(t,AV.dead)∈Qfx l:=by
      simp only [Qfx,List.mem_filterMap]
      exact ⟨oj,List.mem_of_getElem? hoj,by rw [hdj];rfl⟩
     obtain ⟨c',hc'⟩:=Qe4 this
     rw [h1] at hc';cases hc'
 ·intro j oj d' r' hj hoj hl hdj hrd' hn
  by_cases e:d'=d
  ·subst e
   have:=hdist i j o oj d' hi hj ho hoj hd hdj
   subst this
   rw [Qan]
   rw [hrr] at hrd';exact hrd'
  ·rw [Qaf e]
   have hne:i≠j:=by
    rintro rfl
    rw [ho] at hoj;cases hoj
    rw [hd] at hdj;cases hdj;exact e rfl
   rw [Go.getD_set_ne false hne] at hl
   exact hA j oj d' r' hj hoj hl hdj hrd' hn
 ·intro t c hl hs hn
  by_cases e:t=d
  ·subst e;rw [hrr] at hl;cases hl
  ·rw [Qaf e];exact hB t c hl hs hn
theorem Qjm {listed:Array Bool} : ∀ (m j:Nat),j<m→listed.getD j false=false→∃ i,i<m∧listed.getD i false=false∧∀ k,k<i→listed.getD k false=true
 | 0,_,h,_=>absurd h (Nat.not_lt_zero _)
 | m+1,j,h,hj=>by
  by_cases hx : ∃ k,k<m∧listed.getD k false=false
  ·obtain ⟨k,hk,hk2⟩:=hx
   obtain ⟨i,hi,h1,h2⟩:=Qjm m k hk hk2
   exact ⟨i,Nat.lt_succ_of_lt hi,h1,h2⟩
  ·have hall : ∀ k,k<m→listed.getD k false=true:=fun k hk=>by
    cases hc:listed.getD k false with
    | true=>rfl
    | false=>exact absurd ⟨k,hk,hc⟩ hx
   have:j=m:=by
    rcases Nat.lt_or_ge j m with h' | h'
    ·rw [hall j h'] at hj;cases hj
    ·omega
   subst this
   exact ⟨j,Nat.lt_succ_self _,hj,hall⟩
theorem Qzb {E:Env} {l:List Oper} {m:Nat} {sl:List (Nat×AV)} {rt:List (Nat×Option Qae)} {us:List Nat} {rd:List (Nat×AV)} (hone:DOne E l m sl rt us rd) (hdist : ∀ i j oi oj d,i<m→j<m→l[i]? = some oi→l[j]? = some oj→oi.dst=some d→oj.dst=some d→i=j)
    (hrd : ∀ d r,rd.lookup d=some r→∃ j o,j<m∧l[j]? = some o∧o.dst=some d) (hedge : ∀ i o,i<m→l[i]? = some o→∀ j∈Qbn o,j<i) (htail : ∀ i o,m≤i→l[i]? = some o→∀ j,j<i→j∈Qbn o) (hml:m≤l.length)
    {Q:Exit→Act→World→Prop} (hseq:Region.seqB .any l.toArray (l.length - m) m (Qlo l.length m)=true)
    (hend : ∀ a w,Xjh E l m sl rt us rd (Qlo l.length m) a w→wpList E.P l.toArray Q (l.drop m) a w) :
    ∀ (u:Nat) (listed:Array Bool) (a:Act) (w:World),listed.size=l.length→(∀ j,m≤j→listed.getD j false=false)→(List.range m).countP (fun j => !listed.getD j false)=u→Xjh E l m sl rt us rd listed a w→wpAny E.P .any l.toArray Q (l.length - m+u) listed a w
  | 0,listed,a,w,hs,ht,hu,hinv=>by
    have hall : ∀ j,j<m→listed.getD j false=true:=by
      intro j hj
      have:=List.countP_eq_zero.1 hu j (by simpa using hj)
      simpa using this
    have e:listed=Qlo l.length m:=by
      apply Array.ext
      · simp [Qlo,hs];omega
      · intro j h1 h2
        have e1:listed.getD j false=listed[j]:=by rw [Array.getD_eq_getD_getElem?,Array.getElem?_eq_getElem h1];rfl
        rw [← e1]
        simp only [Qlo,List.getElem_toArray]
        by_cases hj:j<m
        · rw [hall j hj,List.getElem_append_left (by simpa using hj)];simp
        · rw [ht j (by omega),List.getElem_append_right (by simpa using hj)];simp
    subst e
    have h0:=hend a w hinv
    have:=wpAny_of_seq (md:=.any) (Q':=Q) (l.drop m) m (Qlo l.length m) a w (fun j=>by simp [List.getElem?_drop]) (by simpa using hseq) h0
    simpa using this
  | u+1,listed,a,w,hs,ht,hu,hinv=>by
    have hs':listed.size=l.toArray.size:=by simpa using hs
    have hex : ∃ j,j<m∧listed.getD j false=false:=by
      have : 0<(List.range m).countP (fun j => !listed.getD j false):=by omega
      obtain ⟨j,hj,hj2⟩:=List.countP_pos_iff.1 this
      exact ⟨j,by simpa using hj,by simpa using hj2⟩
    obtain ⟨j0,hj0,hj1⟩:=hex
    obtain ⟨i0,hi0,hi1,hi2⟩:=Qjm m j0 hj0 hj1
    rw [← Nat.add_assoc]
    refine ⟨fun hnil=>?_,fun i hi=>?_⟩
    · obtain ⟨o,ho⟩ : ∃ o,l[i0]? = some o:=⟨l[i0]'(by omega),by simp⟩
      have:i0∈Region.ready .any l.toArray listed:=(Qjx hs').2 ⟨o,by simpa using ho,hi1,fun j hj=>hi2 j (hedge i0 o hi0 ho j hj)⟩
      rw [hnil] at this;cases this
    · obtain ⟨o,ho,hl,hr⟩:=(Qjx hs').1 hi
      have ho:l[i]? = some o:=by simpa using ho
      have him:i<m:=by
        rcases Nat.lt_or_ge i m with h | h
        · exact h
        · have:=hr i0 (htail i o h ho i0 (by omega))
          rw [hi1] at this;cases this
      refine Xcx hone hdist hrd hedge him ho hr (by omega) hinv (fun a' w' hinv'=>?_)
      refine Qzb hone hdist hrd hedge htail hml hseq hend u _ a' w' (by simpa using hs) ?_ ?_ hinv'
      · intro j hj
        rw [Go.getD_set_ne false (by omega)]
        exact ht j hj
      · have:=Qkp (f:=fun j => !listed.getD j false) (g:=fun j => !(listed.setIfInBounds i true).getD j false) (i:=i) (l:=List.range m) List.nodup_range (by simpa using him) (by simp [hl]) (by
          have:i<listed.size:=by rw [hs];omega
          simp [this]) (fun j hj=>by simp only [Go.getD_set_ne false (Ne.symm hj)])
        omega
theorem Qiu {l:List Oper} (h:(l.filterMap (·.dst)).Nodup) : ∀ (i j:Nat) (oi oj:Oper) (d:Nat),l[i]? = some oi→l[j]? = some oj→oi.dst=some d→oj.dst=some d→i=j:=by
 induction l with
 | nil=>intro i j oi oj d hi;simp at hi
 | cons o l ih =>
  intro i j oi oj d hi hj hdi hdj
  have hsub:(l.filterMap (·.dst)).Nodup:=by
   cases hd:o.dst with
   | none=>simpa [List.filterMap_cons,hd] using h
   | some d=>rw [List.filterMap_cons,hd] at h;exact (List.nodup_cons.1 h).2
  have hnin : ∀ (k:Nat) (ok:Oper),l[k]? = some ok→ok.dst=o.dst→o.dst=some d→False:=by
   intro k ok hk he hd
   rw [List.filterMap_cons,hd] at h
   exact (List.nodup_cons.1 h).1 (List.mem_filterMap.2 ⟨ok,List.mem_of_getElem? hk,by rw [he,hd]⟩)
  cases i with
  | zero =>
   cases j with
   | zero=>rfl
   | succ j =>
    simp at hi hj
    subst hi
    exact (hnin j oj hj (by rw [hdi,hdj]) hdi).elim
  | succ i =>
   cases j with
   | zero =>
    simp at hi hj
    subst hj
    exact (hnin i oi hi (by rw [hdi,hdj]) hdj).elim
   | succ j =>
    simp at hi hj
    rw [ih hsub i j oi oj d hi hj hdi hdj]
theorem Xdd {E:Env} {ops:Array Oper} {sl:List (Nat×AV)} {rt:List (Nat×Option Qae)} {us:List Nat} {hd:List Oper} {rd:List (Nat×AV)} (h:DWs E ops sl rt us hd rd) :
  rd.map (·.1)=(hd.filterMap (·.dst)).reverse∧(∀ (i:Nat) (o:Oper),hd[i]? = some o→∃ d r,∃ done:List (Nat×AV),o.dst=some d∧(d,r)∈rd∧(∀ x∈done,x∈rd)∧VTo E ops o (Qc6 ops.toList done o++(Qfx ops.toList++sl)) rt us d r):=by
 induction h with
 | nil=>exact ⟨rfl,fun i o h=>by simp at h⟩
 | @snoc hd done o d r h hdst hv ih =>
  obtain ⟨h1,h2⟩:=ih
  refine ⟨by simp [hdst,h1],?_⟩
  intro i o' hi
  rw [List.getElem?_append] at hi
  split at hi
  ·obtain ⟨d',r',done',e1,e2,e3,e4⟩:=h2 i o' hi
   exact ⟨d',r',done',e1,List.mem_cons_of_mem _ e2,fun x hx=>List.mem_cons_of_mem _ (e3 x hx),e4⟩
  ·rename_i hlt
   have:o'=o:=by
    have hz:i - hd.length=0:=by
     rcases Nat.eq_zero_or_pos (i - hd.length) with h | h
     ·exact h
     ·rw [List.getElem?_eq_none (by simp;omega)] at hi;cases hi
    rw [hz] at hi
    simpa using hi.symm
   subst this
   exact ⟨d,r,done,hdst,List.mem_cons_self,fun x hx=>List.mem_cons_of_mem _ hx,hv⟩
theorem Qgr {β:Type} : ∀ {l:List (Nat×β)},(l.map (·.1)).Nodup→∀ {t:Nat} {c : β},(t,c)∈l→l.lookup t=some c
 | [],_,_,_,h=>by cases h
 | (i,x) :: l,hn,t,c,h=>by
  rw [List.map_cons,List.nodup_cons] at hn
  rcases List.mem_cons.1 h with h | h
  ·cases h;exact Qan _ _ _
  ·have:t≠i:=fun e=>hn.1 (List.mem_map.2 ⟨(t,c),h,e⟩)
   rw [Qaf this];exact Qgr hn.2 h
theorem Xff {E:Env} {ops:Array Oper} {o:Oper} {sl sl':List (Nat×AV)} {rt:List (Nat×Option Qae)} {us:List Nat} {d:Nat} {r:AV} (h:VTo E ops o sl rt us d r) (hle:Qrx sl sl') : VTo E ops o sl' rt us d r:=
 fun sl2 h2=>h sl2 (fun t c ht hn=>h2 t c (hle t c ht hn) hn)
theorem Xg2 {E:Env} {id:Nat} {ops:Array Oper} {sl:List (Nat×AV)} {rt:List (Nat×Option Qae)} {us:List Nat} {rd:List (Nat×AV)} {Q:Exit→St→Prop} (m:Nat) (hm:E.P.follows .mixedOrders=true)
    (hh:Qui ops.toList m=true) (ht:Xfo ops.toList m=true) (hseq:Region.seqB .any ops (ops.toList.length - m) m (Qlo ops.toList.length m)=true)
    (hd:DWs E ops sl rt us (ops.toList.take m) rd) (h:RW E ops (ops.toList.drop m) ⟨rd++sl,rt,us⟩ (Q .normal)) : TWp E (.region id ops true) Q ⟨sl,rt,us⟩:=by
  obtain ⟨l⟩:=ops
  simp only at hh ht hseq hd h
  simp only [Qui,Bool.and_eq_true,decide_eq_true_eq,List.all_eq_true] at hh
  obtain ⟨⟨⟨hh1,hh2⟩,hh3⟩,hml⟩:=hh
  simp only [Xfo,List.all_eq_true] at ht
  obtain ⟨f1,f2⟩:=Xdd hd
  have hnd:(rd.map (·.1)).Nodup:=by rw [f1];exact (List.reverse_perm _).nodup_iff.2 hh2
  have htk : ∀ i o,i<m→l[i]? = some o→(l.take m)[i]? = some o:=fun i o hi ho=>by rw [List.getElem?_take,if_pos hi];exact ho
  have hedge : ∀ i o,i<m→l[i]? = some o→∀ j∈Qbn o,j<i:=by
    intro i o hi ho j hj
    have:(o,i)∈(l.take m).zipIdx:=by
      rw [List.mem_zipIdx_iff_getElem?];exact htk i o hi ho
    simpa using hh1 _ this j hj
  have htail : ∀ i o,m≤i→l[i]? = some o→∀ j,j<i→j∈Qbn o:=by
    intro i o hi ho j hj
    have:(o,i)∈l.zipIdx.drop m:=by
      apply List.mem_of_getElem? (i:=i - m)
      rw [List.getElem?_drop,show m+(i - m)=i by omega,List.getElem?_zipIdx,ho]
      simp
    have:=ht _ this j (by simpa using hj)
    simpa using this
  have hone:DOne E l m sl rt us rd:=by
    intro i o hi ho
    obtain ⟨d,r,done,e1,e2,e3,e4⟩:=f2 i o (htk i o hi ho)
    refine ⟨d,r,e1,Qgr hnd e2,Xff e4 ?_⟩
    intro t c ht' hn
    rcases Qau _ _ _ _ ht' with h | ⟨h0,h⟩
    · have hm:=Qb6 h
      have:(t,c)∈Qc6 l rd o:=by
        simp only [Qc6,List.mem_filterMap] at hm ⊢
        obtain ⟨e,he,hm⟩:=hm
        refine ⟨e,he,?_⟩
        split at hm
        case isFalse=>cases hm
        rename_i hb
        rw [if_pos hb]
        obtain ⟨d',hd',hm⟩:=Option.bind_eq_some_iff.1 hm
        obtain ⟨r',hr',hm⟩:=Option.map_eq_some_iff.1 hm
        cases hm
        rw [hd',Option.bind_some,Qgr hnd (e3 _ (Qb6 hr'))]
        rfl
      obtain ⟨c',hc'⟩:=Qe4 this
      have hc2:=Qb6 hc'
      simp only [Qc6,List.mem_filterMap] at hc2 this
      have key : ∀ c,(∃ e∈o.after.toList,(if Region.binds .any e=true then ((l[e.on]?).bind (·.dst)).bind fun d=>(rd.lookup d).map fun r=>(d,r) else none)=some (t,c))→rd.lookup t=some c:=by
        rintro c ⟨e,he,hm⟩
        split at hm
        case isFalse=>cases hm
        obtain ⟨d',hd',hm⟩:=Option.bind_eq_some_iff.1 hm
        obtain ⟨r',hr',hm⟩:=Option.map_eq_some_iff.1 hm
        cases hm;exact hr'
      have k1:=key c this
      have k2:=key c' hc2
      rw [k1] at k2;cases k2
      show ((Qc6 l rd o)++(Qfx l++sl)).lookup t=some c
      rw [List.lookup_append,hc'];rfl
    · rcases Qau _ _ _ _ h with h | ⟨h1,h⟩
      · have hm:=Qb6 h
        simp only [Qfx,List.mem_filterMap] at hm
        obtain ⟨_,_,hm⟩:=hm
        obtain ⟨_,_,hm⟩:=Option.map_eq_some_iff.1 hm
        cases hm;cases hn
      · have hp:(Qc6 l rd o).lookup t=none:=by
          cases hl:(Qc6 l rd o).lookup t with
          | none=>rfl
          | some c' =>
            have hm:=Qb6 hl
            simp only [Qc6,List.mem_filterMap] at hm
            obtain ⟨e,he,hm⟩:=hm
            split at hm
            case isFalse=>cases hm
            obtain ⟨d',hd',hm⟩:=Option.bind_eq_some_iff.1 hm
            obtain ⟨oj,hoj,hdj⟩:=Option.bind_eq_some_iff.1 hd'
            obtain ⟨r',hr',hm⟩:=Option.map_eq_some_iff.1 hm
            cases hm
            have:(t,AV.dead)∈Qfx l:=by
              simp only [Qfx,List.mem_filterMap]
              exact ⟨oj,List.mem_of_getElem? hoj,by rw [hdj];rfl⟩
            obtain ⟨c',hc'⟩:=Qe4 this
            rw [h1] at hc';cases hc'
        rw [List.lookup_append,hp,Option.none_or,List.lookup_append,h1,Option.none_or]
        exact h
  have hdist : ∀ i j oi oj d,i<m→j<m→l[i]? = some oi→l[j]? = some oj→oi.dst=some d→oj.dst=some d→i=j:=fun i j oi oj d hi hj hoi hoj hdi hdj =>
    Qiu hh2 i j oi oj d (htk i oi hi hoi) (htk j oj hj hoj) hdi hdj
  have hrd : ∀ d r,rd.lookup d=some r→∃ j o,j<m∧l[j]? = some o∧o.dst=some d:=by
    intro d r hl
    have:d∈rd.map (·.1):=List.mem_map.2 ⟨_,Qb6 hl,rfl⟩
    rw [f1,List.mem_reverse,List.mem_filterMap] at this
    obtain ⟨o,ho,hdo⟩:=this
    obtain ⟨j,hj⟩:=List.mem_iff_getElem?.1 ho
    rw [List.getElem?_take] at hj
    split at hj
    · exact ⟨j,o,by assumption,hj,hdo⟩
    · cases hj
  intro a w hr
  refine wp_region_any hm ?_
  have hstart:Xjh E l m sl rt us rd (Array.replicate l.length false) a { w with drawn:=w.drawn+1 }:=by
    refine ⟨sl,?_,?_,fun t c _ h _=>h⟩
    · obtain ⟨χ,hd',h0⟩:=hr
      exact ⟨χ,hd',h0.world rfl rfl Tp.drew rfl⟩
    · intro j o d r hj ho hl
      rw [Array.getD_eq_getD_getElem?,Array.getElem?_replicate] at hl
      split at hl <;> cases hl
  have hcnt:(List.range m).countP (fun j => !(Array.replicate l.length false).getD j false)=m:=by
    rw [List.countP_eq_length.2]
    · simp
    · intro j hj
      rw [Array.getD_eq_getD_getElem?,Array.getElem?_replicate]
      split <;> rfl
  have hfin : ∀ a w,Xjh E l m sl rt us rd (Qlo l.length m) a w→wpList E.P l.toArray (fun e a' w' => ∃ s',Q e s'∧Rel E s' a' w') (l.drop m) a w:=by
    rintro a w ⟨sl2,⟨χ,hd',hr⟩,hA,hB⟩
    refine h a w _ ⟨χ,hd',hr.weak (s2:=⟨rd++sl,rt,us⟩) (fun t=>?_) (fun _=>rfl) rfl⟩ (fun s' a' w' hs' hr'=>⟨s',hs',hr'⟩)
    simp only [St.get]
    cases hl:(rd++sl).lookup t with
    | none=>right;rfl
    | some c =>
      cases hn:c.nd with
      | false=>right;cases c <;> first | rfl | cases hn
      | true =>
        left
        rcases Qau _ _ _ _ hl with h | ⟨h1,h⟩
        · obtain ⟨j,o,hj,ho,hdo⟩:=hrd _ _ h
          rw [hA j o t c hj ho (by
            rw [Array.getD_eq_getD_getElem?]
            simp only [Qlo,List.getElem?_toArray]
            rw [List.getElem?_append_left (by simpa using hj)]
            simp [hj]) hdo h hn]
        · rw [hB t c h1 h hn]
  have:=Qzb (Q:=fun e a' w' => ∃ s',Q e s'∧Rel E s' a' w') hone hdist hrd hedge htail hml hseq hfin m (Array.replicate l.length false) a _ (by simp) (fun j _=>by
    rw [Array.getD_eq_getD_getElem?,Array.getElem?_replicate]
    split <;> rfl) hcnt hstart
  rw [show l.length - m+m=l.length by omega] at this
  simpa using this
def DWt (E:Env) (ops:Array Oper) (sl:List (Nat×AV)) (rt:List (Nat×Option Qae)) (us:List Nat) (rest:List Oper) (done rd:List (Nat×AV)) : Prop:=∀ hd,DWs E ops sl rt us hd done→DWs E ops sl rt us (hd++rest) rd
theorem Xl1 {E:Env} {ops:Array Oper} {sl:List (Nat×AV)} {rt:List (Nat×Option Qae)} {us:List Nat} {done:List (Nat×AV)}:DWt E ops sl rt us [] done done:=fun hd h=>by rw [List.append_nil];exact h
theorem Xci {E:Env} {ops:Array Oper} {sl:List (Nat×AV)} {rt:List (Nat×Option Qae)} {us:List Nat} {o:Oper} {rest:List Oper} {done rd:List (Nat×AV)} {d:Nat} {r:AV} (hd:o.dst=some d) (hv:VTo E ops o (Qc6 ops.toList done o++(Qfx ops.toList++sl)) rt us d r) (h:DWt E ops sl rt us rest ((d,r) :: done) rd) : DWt E ops sl rt us (o :: rest) done rd:=fun hd' h'=>by
 have:=h _ (DWs.snoc h' hd hv)
 rwa [List.append_assoc] at this
theorem Xc5 {E:Env} {id:Nat} {ops:Array Oper} {sl:List (Nat×AV)} {rt:List (Nat×Option Qae)} {us:List Nat} {rd:List (Nat×AV)} {Q:Exit→St→Prop} (k:Nat) (hm:E.P.follows .mixedOrders=true)
  (hh:Qui ops.toList (ops.toList.length - k)=true) (ht:Xfo ops.toList (ops.toList.length - k)=true) (hseq:Region.seqB .any ops (ops.toList.length - (ops.toList.length - k)) (ops.toList.length - k) (Qlo ops.toList.length (ops.toList.length - k))=true)
  (hd:DWt E ops sl rt us (ops.toList.take (ops.toList.length - k)) [] rd) (h:RW E ops (ops.toList.drop (ops.toList.length - k)) ⟨rd++sl,rt,us⟩ (Q .normal)) : TWp E (.region id ops true) Q ⟨sl,rt,us⟩:=
 Xg2 _ hm hh ht hseq (by simpa using hd [] DWs.nil) h
end Go.T
set_option linter.unusedVariables false
namespace Go.T
open Go Go.RowKit Go.Proofs
mutual
theorem Qwg (π:List (Nat×Nat)) : ∀ a:AV,Qw6 a=true→Qe3 π a=a
 | .sl _ _ _,h=>by simp [Qw6] at h
 | .ptr _ _ _,h=>by simp [Qw6] at h
 | .agg cs,h=>by simp only [Qw6] at h;simp only [Qe3,Ql4 π cs h]
 | .tup cs,h=>by simp only [Qw6] at h;simp only [Qe3,Ql4 π cs h]
 | .fn g cs,h=>by simp only [Qw6] at h;simp only [Qe3,Ql4 π cs h]
 | .dead,_=>rfl
 | .lit _,_=>rfl
 | .ro _ _,_=>rfl
 | .own _ _ _,_=>rfl
 | .rop _ _,_=>rfl
theorem Ql4 (π:List (Nat×Nat)) : ∀ cs:List AV,Qeq cs=true→Xe6 π cs=cs
 | [],_=>rfl
 | c :: cs,h=>by
  simp only [Qeq,Bool.and_eq_true] at h
  simp only [Xe6,Qwg π c h.1,Ql4 π cs h.2]
end
theorem Qtm (π:List (Nat×Nat)) : ∀ xs:List (List AV),Qa1 xs=true→Qqq π xs=xs
 | [],_=>rfl
 | x :: xs,h=>by
  simp only [Qa1,List.all_cons,Bool.and_eq_true] at h
  have:=Qtm π xs h.2
  simp only [Qqq] at this
  simp only [Qqq,List.map_cons,Ql4 π x h.1,this]
def Xey (s:St) (π:List (Nat×Nat)) : List (Nat×AV)→Prop
 | []=>True
 | (t,v) :: r=>Qe3 π (s.get t)=v∧Xey s π r
def Qa6 (π:List (Nat×Nat)) (xs:List (List AV)) : Prop:=Qa1 xs=true∨Qqq π xs=xs
theorem Qa6.eq {π:List (Nat×Nat)} {xs:List (List AV)} (h:Qa6 π xs) : Qqq π xs=xs:=h.elim (Qtm π xs) id
def okRt (s:St) (π:List (Nat×Nat)) : List (Nat×Nat×Qae)→Prop
 | []=>True
 | (i,_,R) :: r=>(s.root i=some R∧Qa6 π R.xs)∧okRt s π r
def piR (l:List (Nat×Nat×Qae)) : List (Nat×Nat):=l.map fun x=>(x.1,x.2.1)
def ndB:List Nat→Bool
 | []=>true
 | x :: l => !l.contains x && ndB l
theorem Qlh : ∀ {l:List Nat},ndB l=true→l.Nodup
 | [],_=>List.nodup_nil
 | x :: l,h=>by
  simp only [ndB,Bool.and_eq_true,Bool.not_eq_true'] at h
  exact List.nodup_cons.2 ⟨by simpa using h.1,Qlh h.2⟩
def okPi (π:List (Nat×Nat)) : Bool:=ndB (π.map (·.1)) && ndB (π.map (·.2)) && !(π.map (·.2)).contains JJ && !(π.map (·.1)).contains JJ
theorem Qww {s:St} {π:List (Nat×Nat)} : ∀ {l:List (Nat×AV)},Xey s π l→∀ t v,l.lookup t=some v→Qe3 π (s.get t)=v
 | [],_,t,v,h=>by simp at h
 | (x,u) :: r,⟨h1,h2⟩,t,v,h=>by
  by_cases e:t=x
  ·subst e;rw [Qan] at h;cases h;exact h1
  ·rw [Qaf e] at h;exact Qww h2 t v h
theorem Qzg {s:St} {π:List (Nat×Nat)} : ∀ {l:List (Nat×Nat×Qae)},okRt s π l→(piR l).map (fun p=>(p.2,(s.root p.1).map (Xg6 π)))=l.map (fun x=>(x.2.1,some x.2.2))
 | [],_=>rfl
 | (i,j,R) :: r,⟨⟨h1,h2⟩,h3⟩=>by
  have:=Qzg (π:=π) h3
  simp only [piR] at this
  simp only [piR,List.map_cons,this,h1,Option.map_some,Xg6,h2.eq]
def fxB (f:List (Nat×Value)) (π:List (Nat×Nat)) : Bool:=f.all fun p=>π.lookup p.1 == some p.1
theorem Xj9 {f:List (Nat×Value)} {π:List (Nat×Nat)} (h:fxB f π=true) : ∀ p,p∈f→π.lookup p.1=some p.1:=by
 simp only [fxB,List.all_eq_true] at h
 intro p hp
 simpa using h p hp
theorem Xkj (E:Env) {s:St} (l:List (Nat×AV)) (rts:List (Nat×Nat×Qae)) (hπ:okPi (piR rts)=true) (hfx:fxB E.fx (piR rts)=true) (hsl:Xey s (piR rts) l) (hrt:okRt s (piR rts) rts) :
  Ent E s ⟨l,rts.map (fun x=>(x.2.1,some x.2.2)),(piR rts).map (·.2)++[JJ]⟩:=by
 simp only [okPi,Bool.and_eq_true,Bool.not_eq_true'] at hπ
 obtain ⟨⟨⟨h1,h2⟩,hJ⟩,hJ1⟩:=hπ
 refine (Xhz E s (piR rts) (l.map (·.1)) (Qlh h1) (Qlh h2) (by simpa using hJ) (by simpa using hJ1) (Xj9 hfx)).trans ?_
 rintro a w ⟨χ,hd,hr⟩
 refine ⟨χ,hd,hr.weak (fun t=>?_) (fun i=>?_) rfl⟩
 ·simp only [St.get]
  cases hl:l.lookup t with
  | none=>right;rfl
  | some v =>
   left
   have hv:=Qww hsl t v hl
   have hm:t∈l.map (·.1):=List.mem_map.2 ⟨_,Qb6 hl,rfl⟩
   show v=(((l.map (·.1)).map (fun t=>(t,Qe3 (piR rts) (s.get t)))).lookup t).getD .dead
   rw [Qpt (fun t=>Qe3 (piR rts) (s.get t)),if_pos hm]
   exact hv.symm
 ·have:=Qzg (π:=piR rts) hrt
  simp only [St.root] at this
  simp only [St.root,St.ren]
  rw [this]
end Go.T
set_option linter.unusedVariables false
namespace Go.T
open Go Go.RowKit Go.Proofs
section
variable {E:Env} {Θ:Tys} {ops:Array Oper} {o:Oper} {rest:List Oper} {sl:List (Nat×AV)} {rt:List (Nat×Option Qae)} {us:List Nat} {K:St→Prop}
theorem Xfn {i j T sz e c:Nat} {Y:Qae} {xs xs':List (List AV)} {x:List AV} (hij:j≠i) (hR:St.root ⟨sl,rt,us⟩ i=some ⟨T,sz,xs⟩) (hY:St.root ⟨sl,rt,us⟩ j=some Y) (he:xs[e]? = some x) (hc:x[c]? = some (.sl j 0 Y.xs.length)) (ht:Qa1 Y.xs=true) (hx:xs.set e (x.set c (.own Y.T Y.sz Y.xs))=xs') :
  Ent E ⟨sl,rt,us⟩ ⟨sl,(j,none) :: (i,some ⟨T,sz,xs'⟩) :: rt,us⟩:=by
 subst hx
 rintro a w ⟨χ,hd,h⟩
 exact h.pack (o:=c) hij hR hY he hc ht
theorem Xbh {i j T sz e c T' sz':Nat} {ys:List (List AV)} {xs xs':List (List AV)} {x:List AV} (hj:j ∉ us) (hR:St.root ⟨sl,rt,us⟩ i=some ⟨T,sz,xs⟩) (he:xs[e]? = some x) (hc:x[c]? = some (.own T' sz' ys)) (hz : 0<sz') (hx:xs.set e (x.set c (.sl j 0 ys.length))=xs') :
  Ent E ⟨sl,rt,us⟩ ⟨sl,(j,some ⟨T',sz',ys⟩) :: (i,some ⟨T,sz,xs'⟩) :: rt,j :: us⟩:=by
 subst hx
 rintro a w ⟨χ,hd,h⟩
 exact h.unpack hj hR he hc hz
end
section
variable {Θ:Tys} {s:St} {id:Nat}
end
end Go.T
set_option linter.unusedVariables false
namespace Go.T
open Go Go.RowKit Go.Proofs
abbrev NS:Nat→Prop:=fun _=>False
def Row (w:World) (T sz:Nat) (h:Value) (xs:List (List AV)) (fp:List Nat) : Prop:=∃ vs fp',w.ownsRow 0 T sz h xs.length vs∧Qdt w NS sz xs vs fp'∧fp=h.ownBlock.toList++fp'
theorem Qro {E:Env} {Θ:Tys} (hΘ:TOK E.P Θ) {fn:Func} {s:St} {a:Act} {w:World} {χ:Nat→Option Nat} {hd:Nat→Value} (h:Qci E s a w χ hd) {xs:List AV} (hxs:Quy Θ s fn.results.toList=some xs) : ∃ v,(results fn a.tmps).run E.P w = .ok v w∧repR w (Qbg χ w) (· ∈ s.us) (tab s hd) (one xs) v []:=by
 obtain ⟨vs,hrun,hrep⟩:=Qr1 (E:=E) hΘ h _ _ hxs
 have hlen:=Qb4 _ _ _ hrep
 have hm:(fn.results.mapM (Xf9 a.tmps) : Sem (Array Value)).run E.P w = .ok vs.toArray w:=by
  rw [← Array.toArray_toList (xs:=fn.results),List.mapM_toArray]
  simp only [Sem.run_map]
  rw [hrun]
  rfl
 rw [Xbj]
 simp only [Sem.run_bind]
 rw [hm]
 simp only [Result.andThen_ok,Sem.run_pure]
 match xs,vs,hlen,hrep with
 | [x],[v],_,hrep =>
  refine ⟨v,by simp,?_⟩
  simp only [Qah] at hrep
  obtain ⟨u,us,f1,f2,h1,h2,h3,h4,h5⟩:=hrep
  cases h1
  obtain ⟨rfl,rfl⟩:=List.append_eq_nil_iff.1 h2.symm
  exact h3
 | [],[],_,hrep=>exact ⟨.tuple #[],by simp,by simp only [one,repR];exact ⟨[],rfl,hrep⟩⟩
 | x :: y :: xs,v :: u :: vs,_,hrep =>
  refine ⟨.tuple (v :: u :: vs).toArray,by simp,?_⟩
  simp only [one,repR]
  exact ⟨_,rfl,hrep⟩
mutual
theorem Qtp {E:Env} {a:Act} {w:World} {κ:Nat} : ∀ (x:AV) (u:Value) (f ids:List Nat) (s:St) (χ:Nat→Option Nat) (hd:Nat→Value),Qci E s a w χ hd→repR w (Qbg χ w) (· ∈ s.us) (tab s hd) x u f→f.Nodup→(∀ b∈f,χ b=some κ)→(∀ b∈f,E.w0.heap.size≤b∨E.In b)→(∀ b∈f,¬ E.Jk b)→(∀ R i,s.root i=some R→i≠κ)→ids.Nodup→(∀ i∈ids,i ∉ s.us∧i≠κ) →
  ∃ χ' hd',Qkx E s (s.addL (rtf x ids).2.1) a w χ χ' hd hd' f∧repR w (Qbg χ' w) (· ∈ (s.addL (rtf x ids).2.1).us) (tab (s.addL (rtf x ids).2.1) hd') (rtf x ids).1 u []∧(rtf x ids).2.2.Nodup∧(∀ i∈(rtf x ids).2.2,i ∉ (s.addL (rtf x ids).2.1).us∧i≠κ)∧(∀ R i,(s.addL (rtf x ids).2.1).root i=some R→i≠κ)
 | .own T sz xs,u,f,i :: ids,s,χ,hd,h,hr,hn,hc,hw,hJ,hk,hin,hi=>by
  by_cases hz : 0<sz
  ·simp only [rtf,hz,if_true,St.addL]
   simp only [repR,rep] at hr
   obtain ⟨vs,f',ho,hr,rfl⟩:=hr
   obtain ⟨hi1,hi2⟩:=hi i List.mem_cons_self
   let ff:=u.ownBlock.toList++f'
   let χ':Nat→Option Nat:=fun b=>if b∈ff then some i else χ b
   have hiJ:i≠JJ:=by rintro rfl;exact hi1 h.jj
   have hfr : ∀ b,Qbg χ w b↔Qbg χ' w b:=by
    intro b
    have : χ' b=none↔χ b=none:=by
     simp only [χ']
     split
     ·rename_i hm;rw [hc b hm];simp
     ·rfl
    exact ⟨fun hb=>⟨this.2 hb.1,hb.2⟩,fun hb=>⟨this.1 hb.1,hb.2⟩⟩
   have h1:Qci E s a w χ' hd:=by
    refine ⟨h.defers,h.size,h.os,h.tape,h.output,h.hsz,h.frame,h.fx,h.jj,h.rj,?_,?_,?_,?_⟩
    ·intro b hb
     have:b ∉ ff:=fun hm=>hJ b hm hb
     simp only [χ',this,if_false];exact h.jk b hb
    ·intro b r hbr
     simp only [χ'] at hbr
     split at hbr
     ·rename_i hm
      exact ⟨fun _=>hw b hm,(h.col b κ (hc b hm)).2⟩
     ·exact h.col b r hbr
    ·intro j Q hQ
     obtain ⟨q1,fq,q2,q3,q4⟩:=h.rts j Q hQ
     refine ⟨q1,fq,q2.mono (fun b hb=>(hfr b).1 hb) (fun _ _=>rfl) (fun _ _=>rfl) (fun _ y=>y) (fun _ _ _ y=>y),q3,fun b hb=>?_⟩
     have hbj:=q4 b hb
     have:b ∉ ff:=fun hm=>by have:=hc b hm;rw [hbj] at this;cases this;exact hk Q κ hQ rfl
     simp only [χ',this,if_false];exact hbj
    ·intro t
     exact Qcd _ _ _ (h.slots t) (fun b hb=>(hfr b).1 hb) (fun _ _=>rfl) (fun _ _=>rfl) (fun _ y=>y) (fun _ _ _ y=>y)
   have h2:=h1.addRoot hi1 (R:=⟨T,sz,xs⟩) (v:=u) (fp:=ff) ⟨hz,vs,f',ho,Qi1 _ _ _ (Qex _ _ _ _ hr (fun b hb=>(hfr b).1 hb) (fun _ _=>rfl) (fun _ _=>rfl)),rfl⟩ hn (fun b hb=>by simp only [χ',hb,if_true])
   refine ⟨χ',_,⟨h2,hfr,fun b hb=>by simp only [χ',show b ∉ ff from hb,if_false],fun j hj=>List.mem_cons_of_mem _ hj,fun j hj=>?_⟩,?_,(List.nodup_cons.1 hin).2,?_,?_⟩
   ·have hne:j≠i:=fun e=>hi1 (e ▸ hj)
    simp [tab,St.root_add_ne s hne,hne]
   ·simp only [repR]
    refine ⟨trivial,List.mem_cons_self,?_⟩
    intro h' n' sz' hh
    simp [tab,St.root_add_same] at hh
    obtain ⟨rfl,rfl,rfl⟩:=hh
    exact ⟨by omega,Qjz ho,Qj2 ho⟩
   ·intro j hj
    obtain ⟨j1,j2⟩:=hi j (List.mem_cons_of_mem _ hj)
    refine ⟨?_,j2⟩
    show j ∉ i :: s.us
    rw [List.mem_cons]
    rintro (rfl | hm)
    ·exact (List.nodup_cons.1 hin).1 hj
    ·exact j1 hm
   ·intro R j hR
    by_cases hj:j=i
    ·subst hj;exact hi2
    ·rw [St.root_add_ne s hj] at hR;exact hk R j hR
  ·simp only [rtf,hz,if_false,St.addL]
   exact ⟨χ,hd,⟨h,fun _=>Iff.rfl,fun _ _=>rfl,fun _ y=>y,fun _ _=>rfl⟩,Qdk u,hin,hi,hk⟩
 | .own _ _ _,u,f,[],s,χ,hd,h,hr,hn,hc,hw,hJ,hk,hin,hi=>by
  simp only [rtf,St.addL]
  exact ⟨χ,hd,⟨h,fun _=>Iff.rfl,fun _ _=>rfl,fun _ y=>y,fun _ _=>rfl⟩,Qdk u,hin,hi,hk⟩
 | .agg cs,u,f,ids,s,χ,hd,h,hr,hn,hc,hw,hJ,hk,hin,hi=>by
  simp only [rtf]
  simp only [repR] at hr
  obtain ⟨vs,rfl,hr⟩:=hr
  obtain ⟨χ',hd',h1,h2,h3,h4,h5⟩:=Qna cs vs f ids s χ hd h hr hn hc hw hJ hk hin hi
  exact ⟨χ',hd',h1,by simp only [repR];exact ⟨vs,rfl,h2⟩,h3,h4,h5⟩
 | .tup cs,u,f,ids,s,χ,hd,h,hr,hn,hc,hw,hJ,hk,hin,hi=>by
  simp only [rtf]
  simp only [repR] at hr
  obtain ⟨vs,rfl,hr⟩:=hr
  obtain ⟨χ',hd',h1,h2,h3,h4,h5⟩:=Qna cs vs f ids s χ hd h hr hn hc hw hJ hk hin hi
  exact ⟨χ',hd',h1,by simp only [repR];exact ⟨vs,rfl,h2⟩,h3,h4,h5⟩
 | .fn _ _,u,f,ids,s,χ,hd,h,hr,hn,hc,hw,hJ,hk,hin,hi=>by
  simp only [rtf,St.addL]
  exact ⟨χ,hd,⟨h,fun _=>Iff.rfl,fun _ _=>rfl,fun _ y=>y,fun _ _=>rfl⟩,Qdk u,hin,hi,hk⟩
 | .dead,u,f,ids,s,χ,hd,h,hr,hn,hc,hw,hJ,hk,hin,hi=>by
  simp only [rtf,St.addL]
  exact ⟨χ,hd,⟨h,fun _=>Iff.rfl,fun _ _=>rfl,fun _ y=>y,fun _ _=>rfl⟩,Qdk u,hin,hi,hk⟩
 | .lit v,u,f,ids,s,χ,hd,h,hr,hn,hc,hw,hJ,hk,hin,hi=>by
  simp only [rtf,St.addL]
  have hf:f=[]:=by simp only [repR,rep] at hr;exact hr.1
  subst hf
  exact ⟨χ,hd,Qkx.refl h,hr,hin,hi,hk⟩
 | .ro sz xs,u,f,ids,s,χ,hd,h,hr,hn,hc,hw,hJ,hk,hin,hi=>by
  simp only [rtf,St.addL]
  have hf:f=[]:=by simp only [repR,rep] at hr;exact hr.1
  subst hf
  exact ⟨χ,hd,Qkx.refl h,hr,hin,hi,hk⟩
 | .rop cs o,u,f,ids,s,χ,hd,h,hr,hn,hc,hw,hJ,hk,hin,hi=>by
  simp only [rtf,St.addL]
  have hf:f=[]:=by simp only [repR,rep] at hr;exact hr.1
  subst hf
  exact ⟨χ,hd,Qkx.refl h,hr,hin,hi,hk⟩
 | .sl _ _ _,u,f,ids,s,χ,hd,h,hr,hn,hc,hw,hJ,hk,hin,hi=>by
  simp only [rtf,St.addL]
  have hf:f=[]:=by simp only [repR] at hr;exact hr.1
  subst hf
  exact ⟨χ,hd,Qkx.refl h,hr,hin,hi,hk⟩
 | .ptr _ _ _,u,f,ids,s,χ,hd,h,hr,hn,hc,hw,hJ,hk,hin,hi=>by
  simp only [rtf,St.addL]
  have hf:f=[]:=by simp only [repR] at hr;exact hr.1
  subst hf
  exact ⟨χ,hd,Qkx.refl h,hr,hin,hi,hk⟩
theorem Qna {E:Env} {a:Act} {w:World} {κ:Nat} : ∀ (xs:List AV) (us:List Value) (f ids:List Nat) (s:St) (χ:Nat→Option Nat) (hd:Nat→Value),Qci E s a w χ hd→Qah w (Qbg χ w) (· ∈ s.us) (tab s hd) xs us f→f.Nodup→(∀ b∈f,χ b=some κ)→(∀ b∈f,E.w0.heap.size≤b∨E.In b)→(∀ b∈f,¬ E.Jk b)→(∀ R i,s.root i=some R→i≠κ)→ids.Nodup→(∀ i∈ids,i ∉ s.us∧i≠κ) →
  ∃ χ' hd',Qkx E s (s.addL (Qn0 xs ids).2.1) a w χ χ' hd hd' f∧Qah w (Qbg χ' w) (· ∈ (s.addL (Qn0 xs ids).2.1).us) (tab (s.addL (Qn0 xs ids).2.1) hd') (Qn0 xs ids).1 us []∧(Qn0 xs ids).2.2.Nodup∧(∀ i∈(Qn0 xs ids).2.2,i ∉ (s.addL (Qn0 xs ids).2.1).us∧i≠κ)∧(∀ R i,(s.addL (Qn0 xs ids).2.1).root i=some R→i≠κ)
 | [],us,f,ids,s,χ,hd,h,hr,hn,hc,hw,hJ,hk,hin,hi=>by
  simp only [Qah] at hr
  obtain ⟨rfl,rfl⟩:=hr
  simp only [Qn0,St.addL]
  exact ⟨χ,hd,Qkx.refl h,by simp [Qah],hin,hi,hk⟩
 | x :: xs,us,f,ids,s,χ,hd,h,hr,hn,hc,hw,hJ,hk,hin,hi=>by
  simp only [Qah] at hr
  obtain ⟨u,us',f1,f2,rfl,rfl,hr1,hr2⟩:=hr
  rw [List.nodup_append] at hn
  obtain ⟨χ1,hd1,n1,r1,d1,i1,k1⟩:=Qtp x u f1 ids s χ hd h hr1 hn.1 (fun b hb=>hc b (by simp [hb])) (fun b hb=>hw b (by simp [hb])) (fun b hb=>hJ b (by simp [hb])) hk hin hi
  have hr2':Qah w (Qbg χ1 w) (· ∈ (s.addL (rtf x ids).2.1).us) (tab (s.addL (rtf x ids).2.1) hd1) xs us' f2:=Qdx _ _ _ hr2 (fun b hb=>(n1.fr b).1 hb) (fun _ _=>rfl) (fun _ _=>rfl) n1.us (fun i hi y hy=>by rwa [n1.tb i hi] at hy)
  obtain ⟨χ2,hd2,n2,r2,d2,i2,k2⟩:=Qna xs us' f2 (rtf x ids).2.2 _ χ1 hd1 n1.rel hr2' hn.2.1 (fun b hb=>by rw [n1.other b (fun hb1=>hn.2.2 b hb1 b hb rfl)];exact hc b (by simp [hb])) (fun b hb=>hw b (by simp [hb])) (fun b hb=>hJ b (by simp [hb])) k1 d1 i1
  simp only [Qn0,St.addL_append]
  refine ⟨χ2,hd2,⟨n2.rel,fun b=>(n1.fr b).trans (n2.fr b),fun b hb=>?_,fun j hj=>n2.us j (n1.us j hj),fun j hj=>(n2.tb j (n1.us j hj)).trans (n1.tb j hj)⟩,?_,d2,i2,k2⟩
  ·rw [List.mem_append,not_or] at hb
   rw [n2.other b hb.2,n1.other b hb.1]
  ·simp only [Qah]
   exact ⟨u,us',[],[],rfl,rfl,n2.repR r1,r2⟩
end
end Go.T
set_option linter.unusedVariables false
namespace Go.T
open Go Go.RowKit Go.Proofs
def hdT (rs:List Qae) (hd:Nat→Value) : Tab:=fun i=>(rs[i]?).map fun R=>(hd i,R.xs.length,R.sz)
def Qxl (P:Program) (f:FuncId) (rs:List Qae) (args:List AV) (ks:List Bool) (rs':List Qae) (res:AV) : Prop:=
  Enters P f∧∀ (w:World) (S:Nat→Prop) (hd:Nat→Value) (fp:Nat→List Nat) (vals:List Value),
    (∀ i R,rs[i]? = some R→0<R.sz∧Row w R.T R.sz (hd i) R.xs (fp i)∧(fp i).Nodup)→(∀ i,rs[i]? = none→fp i=[]) →
    (∀ i j b,b∈fp i→b∈fp j→i=j)→(∀ i b,b∈fp i→¬ S b)→(∀ b,S b→b<w.heap.size) →
    Qah w S (fun i=>i<rs.length) (hdT rs hd) args vals [] →
    Calls P f vals.toArray w (fun e w' => ∃ (v:Value) (fp':Nat→List Nat) (g:List Nat),e = .returned v∧w'.os=w.os∧Tp w w'∧w'.output=w.output∧w.heap.size≤w'.heap.size ∧
      (∀ k,k<w.heap.size→(∀ i,k ∉ fp i)→w'.heap[k]? = w.heap[k]?) ∧
      (∀ i R',rs'[i]? = some R'→ks[i]? = some true→Row w' R'.T R'.sz (hd i) R'.xs (fp' i)∧(fp' i).Nodup) ∧
      (∀ i,ks[i]? ≠ some true→fp' i=[])∧(∀ i b,b∈fp' i→(∃ j,b∈fp j)∨w.heap.size≤b) ∧
      repR w' NS (fun i=>ks[i]? = some true) (hdT rs' hd) res v g∧g.Nodup∧(∀ b∈g,((∃ j,b∈fp j)∨w.heap.size≤b)∧b<w'.heap.size) ∧
      (∀ i j b,b∈fp' i→b∈fp' j→i=j)∧(∀ i b,b∈fp' i→b ∉ g∧b<w'.heap.size))
def Qaw (X:PK) (f:FuncId) (rs:List Qae) (args:List AV) (ks:List Bool) (rs':List Qae) (res:AV) : Prop:=
  Enters X.p f∧∀ (w:World) (S:Nat→Prop) (hd:Nat→Value) (fp:Nat→List Nat) (vals:List Value),
    (∀ i R,rs[i]? = some R→0<R.sz∧Row w R.T R.sz (hd i) R.xs (fp i)∧(fp i).Nodup)→(∀ i,rs[i]? = none→fp i=[]) →
    (∀ i j b,b∈fp i→b∈fp j→i=j)→(∀ i b,b∈fp i→¬ S b)→(∀ b,S b→b<w.heap.size) →
    Qah w S (fun i=>i<rs.length) (hdT rs hd) args vals [] →
    X.K.k (fun b=>b<w.heap.size∧∀ i,b ∉ fp i) w →
    Calls X.p f vals.toArray w (fun e w' => ∃ (v:Value) (fp':Nat→List Nat) (g:List Nat),e = .returned v∧w'.os=w.os∧Tp w w'∧w'.output=w.output∧w.heap.size≤w'.heap.size ∧
      (∀ k,k<w.heap.size→(∀ i,k ∉ fp i)→w'.heap[k]? = w.heap[k]?) ∧
      (∀ i R',rs'[i]? = some R'→ks[i]? = some true→Row w' R'.T R'.sz (hd i) R'.xs (fp' i)∧(fp' i).Nodup) ∧
      (∀ i,ks[i]? ≠ some true→fp' i=[])∧(∀ i b,b∈fp' i→(∃ j,b∈fp j)∨w.heap.size≤b) ∧
      repR w' NS (fun i=>ks[i]? = some true) (hdT rs' hd) res v g∧g.Nodup∧(∀ b∈g,((∃ j,b∈fp j)∨w.heap.size≤b)∧b<w'.heap.size) ∧
      (∀ i j b,b∈fp' i→b∈fp' j→i=j)∧(∀ i b,b∈fp' i→b ∉ g∧b<w'.heap.size))
theorem mK {X:PK} {f:FuncId} {rs:List Qae} {args:List AV} {ks:List Bool} {rs':List Qae} {res:AV} (h:Qxl X.p f rs args ks rs' res) : Qaw X f rs args ks rs' res:=
 ⟨h.1,fun w S hd fp vals h1 h2 h3 h4 h5 h6 _=>h.2 w S hd fp vals h1 h2 h3 h4 h5 h6⟩
mutual
def Qid (s:St) (π:List (Nat×Nat)) : AV→Option AV
 | .lit v=>some (.lit v)
 | .ro sz xs=>some (.ro sz xs)
 | .rop cs o=>some (.rop cs o)
 | .sl i off len=>match π.lookup i with
  | some j=>some (.sl j off len)
  | none=>match s.root i with
   | some R=>if Qa1 ((R.xs.drop off).take len) then some (.ro R.sz (Qnk ((R.xs.drop off).take len))) else none
   | none=>none
 | .ptr i e o=>match π.lookup i with
  | some j=>some (.ptr j e o)
  | none=>match s.root i with
   | some R=>match R.xs[e]? with
    | some x=>if Qeq x then some (.rop (Qnh x) o) else none
    | none=>none
   | none=>none
 | .agg cs=>match Qii s π cs with
  | some ds=>some (.agg ds)
  | none=>none
 | .fn g cs=>match Qii s π cs with
  | some ds=>some (.fn g ds)
  | none=>none
 | _=>none
def Qii (s:St) (π:List (Nat×Nat)) : List AV→Option (List AV)
 | []=>some []
 | c :: cs=>match Qid s π c,Qii s π cs with
  | some d,some ds=>some (d :: ds)
  | _,_=>none
end
section
variable {E:Env} {s:St} {a:Act} {w:World} {χ:Nat→Option Nat} {hd:Nat→Value} {π:List (Nat×Nat)} {S2 U:Nat→Prop} {ρ:Tab}
mutual
theorem Xb0 (h:Qci E s a w χ hd) (hS : ∀ b,Qbg χ w b→S2 b) (hS2 : ∀ i R b,s.root i=some R→π.lookup i=none→χ b=some i→S2 b) (hU : ∀ i j,π.lookup i=some j→U j) (hρ : ∀ i j,π.lookup i=some j→ρ j=tab s hd i) :
  ∀ (x y:AV) (u:Value) (f:List Nat),repR w (Qbg χ w) (· ∈ s.us) (tab s hd) x u f→f=[]→Qid s π x=some y→repR w S2 U ρ y u []
 | .lit v,y,u,f,hr,hf,he=>by simp only [Qid] at he;cases he;simp only [repR] at hr ⊢; subst hf;exact Qbl _ _ _ hr hS (fun _ _=>rfl) (by simp)
 | .ro sz xs,y,u,f,hr,hf,he=>by simp only [Qid] at he;cases he;simp only [repR] at hr ⊢; subst hf;exact Qbl _ _ _ hr hS (fun _ _=>rfl) (by simp)
 | .rop cs o,y,u,f,hr,hf,he=>by simp only [Qid] at he;cases he;simp only [repR] at hr ⊢; subst hf;exact Qbl _ _ _ hr hS (fun _ _=>rfl) (by simp)
 | .sl i off len,y,u,f,hr,hf,he=>by
  simp only [Qid] at he
  split at he
  ·rename_i j hj
   cases he
   simp only [repR] at hr ⊢
   exact ⟨trivial,hU _ _ hj,fun a b c hh=>hr.2.2 a b c (by rw [← hρ _ _ hj];exact hh)⟩
  ·rename_i hπ
   split at he
   case h_2=>cases he
   rename_i R hR
   split at he
   case isFalse=>cases he
   rename_i ht
   cases he
   simp only [repR] at hr
   obtain ⟨_,_,hr⟩:=hr
   obtain ⟨hle,hu,_⟩:=hr (hd i) R.xs.length R.sz (by simp [tab,hR])
   obtain ⟨A,cap,vs,g,rfl,hcap,hrr,hg,hA⟩:=Qu5 h hR hle hu
   have hlen:((R.xs.drop off).take len).length=len:=by rw [List.length_take,List.length_drop];omega
   have hz:=Qnr (S2:=S2) _ _ _ _ (Qey _ _ _ hrr ht) hS (fun b hb=>hS2 i R b hR hπ (hg b hb))
   simp only [repR,rep]
   refine ⟨trivial,A,cap,by rw [Qfs,hlen],by rw [Qfs,hlen];exact hcap,?_⟩
   by_cases hl:len=0
   ·left;exact Qx0 (by rw [hl,List.take_zero])
   ·obtain ⟨b,rfl,hat,hcb⟩:=hA (by omega)
    exact .inr ⟨b,_,vs,rfl,hS2 i R b hR hπ hcb,hat,hz⟩
 | .ptr i e o,y,u,f,hr,hf,he=>by
  simp only [Qid] at he
  split at he
  ·rename_i j hj
   cases he
   simp only [repR] at hr ⊢
   exact ⟨trivial,hU _ _ hj,fun a b c hh=>hr.2.2 a b c (by rw [← hρ _ _ hj];exact hh)⟩
  ·rename_i hπ
   split at he
   case h_2=>cases he
   rename_i R hR
   split at he
   case h_2=>cases he
   rename_i x hx
   split at he
   case isFalse=>cases he
   rename_i ht
   cases he
   simp only [repR] at hr
   obtain ⟨_,_,hr⟩:=hr
   obtain ⟨hlt,b,m,c,hh,rfl⟩:=hr (hd i) R.xs.length R.sz (by simp [tab,hR])
   obtain ⟨_,fp,⟨hz,vs,fp',hown,hrep,rfl⟩,_,hcol⟩:=h.rts i R hR
   obtain ⟨v1,us,v2,f1,fe,f2,rfl,rfl,hl1,hlus,h1c,k1,kx,k2⟩:=Qg8 hrep hx
   have hat:=Qhe hown (b:=b) (by rw [hh];rfl)
   have hz:=Qki (S2:=S2) _ _ _ (Qe8 _ _ _ kx ht) hS (fun b hb=>hS2 i R b hR hπ (hcol b (by simp [hb])))
   simp only [repR,rep]
   refine ⟨trivial,b,e * R.sz,us,rfl,hS2 i R b hR hπ (hcol b (by rw [hh];simp [Value.ownBlock])),?_,hz⟩
   intro k v hk
   have hkl:k<us.length:=(List.getElem?_eq_some_iff.1 hk).1
   have:=hat (e * R.sz+k) v (by rw [List.append_assoc,List.getElem?_append_right (by omega),show e * R.sz+k - v1.length=k by omega,List.getElem?_append_left hkl];exact hk)
   simpa using this
 | .agg cs,y,u,f,hr,hf,he=>by
  simp only [Qid] at he
  split at he
  case h_2=>cases he
  rename_i ds hds
  cases he
  simp only [repR] at hr ⊢
  obtain ⟨vs,rfl,hr⟩:=hr
  exact ⟨vs,rfl,Qka h hS hS2 hU hρ cs ds vs f hr hf hds⟩
 | .fn g cs,y,u,f,hr,hf,he=>by
  simp only [Qid] at he
  split at he
  case h_2=>cases he
  rename_i ds hds
  cases he
  simp only [repR] at hr ⊢
  obtain ⟨vs,rfl,hr⟩:=hr
  exact ⟨vs,rfl,Qka h hS hS2 hU hρ cs ds vs f hr hf hds⟩
 | .dead,y,u,f,hr,hf,he=>by simp [Qid] at he
 | .own _ _ _,y,u,f,hr,hf,he=>by simp [Qid] at he
 | .tup _,y,u,f,hr,hf,he=>by simp [Qid] at he
theorem Qka (h:Qci E s a w χ hd) (hS : ∀ b,Qbg χ w b→S2 b) (hS2 : ∀ i R b,s.root i=some R→π.lookup i=none→χ b=some i→S2 b) (hU : ∀ i j,π.lookup i=some j→U j) (hρ : ∀ i j,π.lookup i=some j→ρ j=tab s hd i) :
  ∀ (xs ys:List AV) (us:List Value) (f:List Nat),Qah w (Qbg χ w) (· ∈ s.us) (tab s hd) xs us f→f=[]→Qii s π xs=some ys→Qah w S2 U ρ ys us []
 | [],ys,us,f,hr,hf,he=>by simp only [Qii] at he;cases he;simp only [Qah] at hr ⊢; exact ⟨hr.1,trivial⟩
 | c :: cs,ys,us,f,hr,hf,he=>by
  simp only [Qii] at he
  split at he
  case h_2=>cases he
  rename_i d ds h1 h2
  cases he
  simp only [Qah] at hr ⊢
  obtain ⟨u,us',f1,f2,rfl,hf',k1,k2⟩:=hr
  rw [hf] at hf'
  obtain ⟨e1,e2⟩:=List.append_eq_nil_iff.1 hf'.symm
  exact ⟨u,us',[],[],rfl,rfl,Xb0 h hS hS2 hU hρ c d u f1 k1 e1 h1,Qka h hS hS2 hU hρ cs ds us' f2 k2 e2 h2⟩
end
end
def St.back (s:St) (bk:List (Nat×Option Qae)) : St:={ s with rt:=bk++s.rt }
def Qk0:List Nat→List Bool→List Qae→List (Nat×Option Qae)
 | i :: ρ,k :: ks,R :: rs=>(i,if k then some R else none) :: Qk0 ρ ks rs
 | _,_,_=>[]
def Qpv:List Qae→List Qae→Bool
 | R :: rs,R' :: rs'=>decide (R'.T=R.T) && decide (R'.sz=R.sz) && Qpv rs rs'
 | [],[]=>true
 | _,_=>false
def Xbb:List Qae→List Qae→Prop
 | R :: rs,R' :: rs'=>R'.xs.length=R.xs.length∧Xbb rs rs'
 | _,_=>True
theorem Qvl : ∀ {rs rs':List Qae} {i:Nat} {R R':Qae},Qpv rs rs'=true→rs[i]? = some R→rs'[i]? = some R'→R'.T=R.T∧R'.sz=R.sz
 | [],_,i,R,R',h,h1,_=>by simp at h1
 | _ :: _,[],i,R,R',h,_,h2=>by simp at h2
 | X :: rs,X' :: rs',0,R,R',h,h1,h2=>by
  simp only [Qpv,Bool.and_eq_true,decide_eq_true_eq] at h
  simp at h1 h2;subst h1;subst h2;exact h.1
 | X :: rs,X' :: rs',i+1,R,R',h,h1,h2=>by
  simp only [Qpv,Bool.and_eq_true] at h
  exact Qvl h.2 (by simpa using h1) (by simpa using h2)
theorem Qxv : ∀ {rs rs':List Qae},Qpv rs rs'=true→rs'.length=rs.length
 | [],[],_=>rfl
 | [],_ :: _,h=>by simp [Qpv] at h
 | _ :: _,[],h=>by simp [Qpv] at h
 | X :: rs,X' :: rs',h=>by
  simp only [Qpv,Bool.and_eq_true] at h
  simp [Qxv h.2]
theorem Qzo : ∀ {rs rs':List Qae} {i:Nat} {R R':Qae},Xbb rs rs'→rs[i]? = some R→rs'[i]? = some R'→R'.xs.length=R.xs.length
 | [],_,i,R,R',h,h1,_=>by simp at h1
 | _ :: _,[],i,R,R',h,_,h2=>by simp at h2
 | X :: rs,X' :: rs',0,R,R',h,h1,h2=>by simp at h1 h2;subst h1;subst h2;exact h.1
 | X :: rs,X' :: rs',i+1,R,R',h,h1,h2=>Qzo h.2 (by simpa using h1) (by simpa using h2)
def Qqg (s:St) : List Nat→List Qae→Prop
 | i :: ρ,R :: rs=>s.root i=some R∧Qqg s ρ rs
 | [],[]=>True
 | _,_=>False
theorem Qxe {s:St} : ∀ {ρ:List Nat} {rs:List Qae},Qqg s ρ rs→ρ.length=rs.length∧∀ (k i:Nat),ρ[k]? = some i→∃ R,rs[k]? = some R∧s.root i=some R
 | [],[],_=>⟨rfl,by simp⟩
 | [],_ :: _,h=>h.elim
 | _ :: _,[],h=>h.elim
 | i :: ρ,R :: rs,h=>by
  obtain ⟨h1,h2⟩:=Qxe h.2
  refine ⟨by simp [h1],?_⟩
  intro k j hk
  cases k with
  | zero=>simp at hk;subst hk;exact ⟨R,rfl,h.1⟩
  | succ k=>simpa using h2 k j (by simpa using hk)
theorem Qwl : ∀ {ρ:List Nat} {ks:List Bool} {rs:List Qae} {i:Nat},i ∉ ρ→(Qk0 ρ ks rs).lookup i=none
 | [],_,_,i,_=>by simp [Qk0]
 | _ :: _,[],_,i,_=>by simp [Qk0]
 | _ :: _,_ :: _,[],i,_=>by simp [Qk0]
 | j :: ρ,k :: ks,R :: rs,i,h=>by
  simp only [Qk0]
  rw [Qaf (by intro e;exact h (e ▸ List.mem_cons_self))]
  exact Qwl (fun hm=>h (List.mem_cons_of_mem _ hm))
theorem Xe7 : ∀ {ρ:List Nat} {ks:List Bool} {rs:List Qae},ρ.Nodup→ks.length=ρ.length→rs.length=ρ.length→∀ {k i:Nat},ρ[k]? = some i→∃ R b,rs[k]? = some R∧ks[k]? = some b∧(Qk0 ρ ks rs).lookup i=some (if b then some R else none)
 | [],_,_,_,_,_,k,i,h=>by simp at h
 | _ :: _,[],_,_,h,_,k,i,_=>by simp at h
 | _ :: _,_ :: _,[],_,_,h,k,i,_=>by simp at h
 | j :: ρ,b :: ks,R :: rs,hn,h1,h2,k,i,h=>by
  cases k with
  | zero=>simp at h;subst h;exact ⟨R,b,rfl,rfl,by simp only [Qk0,Qan]⟩
  | succ k =>
   have hk : ρ[k]? = some i:=by simpa using h
   have hne:i≠j:=by
    rintro rfl
    exact (List.nodup_cons.1 hn).1 (List.mem_of_getElem? hk)
   obtain ⟨R',b',e1,e2,e3⟩:=Xe7 (List.nodup_cons.1 hn).2 (by simpa using h1) (by simpa using h2) hk
   exact ⟨R',b',by simpa using e1,by simpa using e2,by simp only [Qk0];rw [Qaf hne];exact e3⟩
theorem Qju (s:St) (bk:List (Nat×Option Qae)) (i:Nat) : (s.back bk).root i=((bk.lookup i).getD (s.root i)):=by
 simp only [St.root,St.back,List.lookup_append]
 cases bk.lookup i <;> rfl
theorem Qx6 : ∀ {ρ:List Nat},ρ.Nodup→∀ {i j x:Nat},ρ[i]? = some x→ρ[j]? = some x→i=j
 | [],_,i,j,x,h,_=>by simp at h
 | y :: ρ,hn,i,j,x,h1,h2=>by
  rw [List.nodup_cons] at hn
  cases i with
  | zero =>
   cases j with
   | zero=>rfl
   | succ j =>
    simp at h1 h2;subst h1
    exact absurd (List.mem_of_getElem? h2) hn.1
  | succ i =>
   cases j with
   | zero =>
    simp at h1 h2;subst h2
    exact absurd (List.mem_of_getElem? h1) hn.1
   | succ j =>
    have:=Qx6 (i:=i) (j:=j) (x:=x) hn.2 (by simpa using h1) (by simpa using h2)
    rw [this]
theorem Qkf {ρ:List Nat} (hn : ρ.Nodup) {i j:Nat} : ρ.zipIdx.lookup i=some j↔ρ[j]? = some i:=by
 constructor
 ·intro h
  have:=Qb6 h
  have:=List.mem_zipIdx_iff_getElem?.1 this
  exact this
 ·intro h
  have hm:(i,j)∈ρ.zipIdx:=List.mem_zipIdx_iff_getElem?.2 h
  refine Qgr ?_ hm
  have : ρ.zipIdx.map Prod.fst=ρ:=by simp
  show (ρ.zipIdx.map Prod.fst).Nodup
  rw [this];exact hn
end Go.T
