/- Lemmas for FnLayers; no condition. -/

import Derived.Test.YtdmmaanagmacjaaTW
import Derived.Test.YtdmmaanagmacjaaTK
set_option linter.unusedVariables false
namespace Go.T
open Go Go.RowKit Go.Proofs
abbrev Xs:=List (Nat×Option Qae)×List Nat
def Xb5 (Ms:List Nat) (listed:Array Bool) : List Bool:=Ms.map fun k=>listed.getD k false
def Xaa (i:Nat) (Ms:List Nat) (bs:List Bool) : List Bool:=(Ms.zip bs).map fun p=>p.2 || p.1 == i
def okS (Ms:List Nat) (A:List (List Nat)) (i:Nat) (bs:List Bool) : Bool:=(Ms.zip bs).all fun p=>((!(Qqc A i).contains p.1) || p.2) && ((!(p.1 == i || (Qqc A p.1).contains i)) || !p.2) && ((Ms.zip bs).all fun q => !(p.2 && (Qqc A p.1).contains q.1) || q.2)
theorem Xee {Ms:List Nat} {listed:Array Bool} {i:Nat} (hi:i<listed.size) : Xb5 Ms (listed.setIfInBounds i true)=Xaa i Ms (Xb5 Ms listed):=by
 induction Ms with
 | nil=>rfl
 | cons k Ms ih =>
  simp only [Xb5,Xaa,List.map_cons,List.zip_cons_cons] at ih ⊢
  rw [ih]
  congr 1
  by_cases h:k=i
  ·subst h;simp [hi]
  ·rw [Go.getD_set_ne false (Ne.symm h)]
   have:(k == i)=false:=by simp [h]
   rw [this,Bool.or_false]
theorem Xc0 {Ms:List Nat} {listed:Array Bool} {p:Nat×Bool} (h:p∈Ms.zip (Xb5 Ms listed)) : p.1∈Ms∧p.2=listed.getD p.1 false:=by
 induction Ms with
 | nil=>simp [Xb5] at h
 | cons k Ms ih =>
  simp only [Xb5,List.map_cons,List.zip_cons_cons,List.mem_cons] at h
  rcases h with rfl | h
  ·exact ⟨List.mem_cons_self,rfl⟩
  ·obtain ⟨h1,h2⟩:=ih h
   exact ⟨List.mem_cons_of_mem _ h1,h2⟩
theorem Xgs {l:List Oper} {m:Nat} {A:List (List Nat)} (hA:Xbp l m A=true) (hml:m≤l.length) (hedge : ∀ i o,i<m→l[i]? = some o→∀ j∈Qbn o,j<i) {Ms:List Nat} (hMs : ∀ k∈Ms,k<m) {listed:Array Bool} (hc:Clo l m listed) {i:Nat} (hi:i<m) {o:Oper} (ho:l[i]? = some o)
  (hr : ∀ j∈Qbn o,listed.getD j false=true) (hu:listed.getD i false=false) : okS Ms A i (Xb5 Ms listed)=true:=by
 have hanc:=Qm3 hA hml hedge hc
 have hself : ∀ k∈Ms,listed.getD k false=true→∀ j∈Qqc A k,listed.getD j false=true:=fun k hk hkl=>hanc k (hMs k hk) (fun o' ho' j hj=>hc k o' (hMs k hk) ho' hkl j hj)
 unfold okS
 rw [List.all_eq_true]
 intro p hp
 obtain ⟨p1,p2⟩:=Xc0 hp
 simp only [Bool.and_eq_true,Bool.or_eq_true,Bool.not_eq_true',List.all_eq_true]
 refine ⟨⟨?_,?_⟩,?_⟩
 ·cases hcn:(Qqc A i).contains p.1 with
  | false=>exact .inl rfl
  | true =>
   right
   rw [p2]
   exact hanc i hi (fun o' ho'=>by rw [ho] at ho';cases ho';exact hr) p.1 (by simpa using hcn)
 ·rw [p2]
  cases hl:listed.getD p.1 false with
  | false=>exact .inr rfl
  | true =>
   left
   simp only [Bool.or_eq_false_iff]
   refine ⟨?_,?_⟩
   ·rw [beq_eq_false_iff_ne]
    rintro rfl;rw [hu] at hl;cases hl
   ·cases hcn:(Qqc A p.1).contains i with
    | false=>rfl
    | true =>
     have:=hself p.1 p1 hl i (by simpa using hcn)
     rw [hu] at this;cases this
 ·intro q hq
  obtain ⟨q1,q2⟩:=Xc0 hq
  rw [p2,q2]
  cases hl:listed.getD p.1 false with
  | false=>left;rfl
  | true =>
   cases hcn:(Qqc A p.1).contains q.1 with
   | false=>left;rfl
   | true=>right;exact hself p.1 p1 hl q.1 (by simpa using hcn)
def Xbf (E:Env) (l:List Oper) (m:Nat) (sl:List (Nat×AV)) (G:List Bool→Xs) (Ms:List Nat) (rd:List (Nat×AV)) (listed:Array Bool) (a:Act) (w:World) : Prop:=
 Clo l m listed∧∃ sl2,Rel E ⟨sl2,(G (Xb5 Ms listed)).1,(G (Xb5 Ms listed)).2⟩ a w∧(∀ j o d r,j<m→l[j]? = some o→listed.getD j false=true→o.dst=some d→rd.lookup d=some r→r.nd=true→sl2.lookup d=some r)∧(∀ t c,rd.lookup t=none→sl.lookup t=some c→c.nd=true→sl2.lookup t=some c)
end Go.T
set_option linter.unusedVariables false
namespace Go.T
open Go Go.RowKit
def STn (E:Env) (ops:Array Oper) (o:Oper) (sl:List (Nat×AV)) (X Y:Xs) : Prop:=
 ∀ sl2,Qrx sl sl2→∀ a w (Q:Exit→Act→World→Prop) (K:Act→World→Prop),Rel E ⟨sl2,X.1,X.2⟩ a w→(∀ a' w',Rel E ⟨sl2,Y.1,Y.2⟩ a' w'→K a' w') →
  (if Region.wanted o (yielded ops a.tmps) then o.wp E.P a w K Q∨(o.asks E.P a w∧LetsOut Q) else K (a.put o.dst undef) w)
def Xhh (ops:List Oper) (m:Nat) : Bool:=((ops.take m).zipIdx.all fun p=>(Qbn p.1).all fun j=>decide (j<p.2)) && decide (((ops.take m).filterMap (·.dst)).Nodup) && decide (m≤ops.length)
def Xfc (E:Env) (l:List Oper) (m:Nat) (sl:List (Nat×AV)) (G:List Bool→Xs) (Ms:List Nat) (A:List (List Nat)) (rd:List (Nat×AV)) : Prop:=
 ∀ i o,i<m→l[i]? = some o→(∃ d r,o.dst=some d∧rd.lookup d=some r∧∀ bs,bs.length=Ms.length→okS Ms A i bs=true→STo E l.toArray o (Qc6 l rd o++(Qfx (l.take m)++sl)) (G bs) (G (Xaa i Ms bs)) d r) ∨
  (o.dst=none∧∀ bs,bs.length=Ms.length→okS Ms A i bs=true→STn E l.toArray o (Qc6 l rd o++(Qfx (l.take m)++sl)) (G bs) (G (Xaa i Ms bs)))
theorem Xas {E:Env} {l:List Oper} {m:Nat} {sl:List (Nat×AV)} {G:List Bool→Xs} {Ms:List Nat} {A:List (List Nat)} {rd:List (Nat×AV)} (hone:Xfc E l m sl G Ms A rd) (hA:Xbp l m A=true) (hml:m≤l.length) (hMs : ∀ k∈Ms,k<m) (hMn:Ms.Nodup)
  (hdist : ∀ i j oi oj d,i<m→j<m→l[i]? = some oi→l[j]? = some oj→oi.dst=some d→oj.dst=some d→i=j)
  (hrd : ∀ d r,rd.lookup d=some r→∃ j o,j<m∧l[j]? = some o∧o.dst=some d) (hedge : ∀ i o,i<m→l[i]? = some o→∀ j∈Qbn o,j<i)
  {Q:Exit→Act→World→Prop} {K:Act→World→Prop} {listed:Array Bool} {a:Act} {w:World} {i:Nat} {o:Oper} (hi:i<m) (ho:l[i]? = some o) (hready : ∀ j∈Qbn o,listed.getD j false=true) (hu:listed.getD i false=false) (hsz:i<listed.size) (hinv:Xbf E l m sl G Ms rd listed a w)
  (hk : ∀ a' w',Xbf E l m sl G Ms rd (listed.setIfInBounds i true) a' w'→K a' w') : wpOp E.P l.toArray Q i K a w:=by
 obtain ⟨hclo,sl2,hr,hAA,hB⟩:=hinv
 have ho':l.toArray[i]? = some o:=by simpa using ho
 have hclo':Clo l m (listed.setIfInBounds i true):=by
  intro k ok hkm hok hkl j hj
  have hji:j≠i:=by
   rintro rfl
   by_cases e:k=j
   ·subst e;exact Nat.lt_irrefl _ (hedge k ok hkm hok k hj)
   ·rw [Go.getD_set_ne false (Ne.symm e)] at hkl
    have:=hclo k ok hkm hok hkl j hj
    rw [hu] at this;cases this
  rw [Go.getD_set_ne false (Ne.symm hji)]
  by_cases e:k=i
  ·subst e;rw [ho] at hok;cases hok;exact hready j hj
  ·rw [Go.getD_set_ne false (Ne.symm e)] at hkl
   exact hclo k ok hkm hok hkl j hj
 have hsl:Qrx (Qc6 l rd o++(Qfx (l.take m)++sl)) sl2:=by
  intro t c ht hn
  rcases Qau _ _ _ _ ht with h | ⟨h0,h⟩
  ·have hm:=Qb6 h
   simp only [Qc6,List.mem_filterMap] at hm
   obtain ⟨e,he,hm⟩:=hm
   split at hm
   case isFalse=>cases hm
   rename_i hb
   obtain ⟨d',hd',hm⟩:=Option.bind_eq_some_iff.1 hm
   obtain ⟨oj,hoj,hdj⟩:=Option.bind_eq_some_iff.1 hd'
   obtain ⟨r',hr',hm⟩:=Option.map_eq_some_iff.1 hm
   cases hm
   have hej:e.on∈Qbn o:=by
    simp only [Qbn,List.mem_filterMap]
    exact ⟨e,he,by rw [if_pos hb]⟩
   have hlt:e.on<m:=Nat.lt_trans (hedge i o hi ho _ hej) hi
   exact hAA e.on oj _ _ hlt hoj (hready _ hej) hdj hr' hn
  ·rcases Qau _ _ _ _ h with h | ⟨h1,h⟩
   ·have hm:=Qb6 h
    simp only [Qfx,List.mem_filterMap] at hm
    obtain ⟨_,_,hm⟩:=hm
    obtain ⟨_,_,hm⟩:=Option.map_eq_some_iff.1 hm
    cases hm
    cases hn
   ·refine hB t c ?_ h hn
    cases hl:rd.lookup t with
    | none=>rfl
    | some r' =>
     obtain ⟨j,oj,hj,hoj,hdj⟩:=hrd _ _ hl
     have:(t,AV.dead)∈Qfx (l.take m):=by
      simp only [Qfx,List.mem_filterMap]
      exact ⟨oj,List.mem_of_getElem? (show (l.take m)[j]? = some oj by rw [List.getElem?_take,if_pos hj];exact hoj),by rw [hdj];rfl⟩
     obtain ⟨c',hc'⟩:=Qe4 this
     rw [h1] at hc';cases hc'
 unfold wpOp
 rw [ho']
 rcases hone i o hi ho with ⟨d,r,hd,hrr,hv⟩ | ⟨hd0,hv⟩
 rotate_left
 ·have hv:=hv _ (by simp [Xb5]) (Xgs hA hml hedge hMs hclo hi ho hready hu)
  refine hv sl2 hsl a w Q K hr (fun a' w' hr'=>hk a' w' ⟨hclo',sl2,by rw [Xee hsz];exact hr',?_,hB⟩)
  intro j oj d' r' hj hoj hl hdj hrd' hn
  have hne:i≠j:=by
   rintro rfl
   rw [ho] at hoj;cases hoj
   rw [hd0] at hdj;cases hdj
  rw [Go.getD_set_ne false hne] at hl
  exact hAA j oj d' r' hj hoj hl hdj hrd' hn
 ·have hv:=hv _ (by simp [Xb5]) (Xgs hA hml hedge hMs hclo hi ho hready hu)
  refine hv sl2 hsl a w Q K hr (fun a' w' hr'=>hk a' w' ⟨hclo',_,by rw [Xee hsz];exact hr',?_,?_⟩)
  ·intro j oj d' r' hj hoj hl hdj hrd' hn
   by_cases e:d'=d
   ·subst e
    have:=hdist i j o oj d' hi hj ho hoj hd hdj
    subst this
    rw [Qan]
    rw [hrr] at hrd';exact hrd'
   ·rw [Qaf e]
    have hne:i≠j:=by
     rintro rfl
     rw [ho] at hoj;cases hoj
     rw [hd] at hdj;cases hdj;exact e rfl
    rw [Go.getD_set_ne false hne] at hl
    exact hAA j oj d' r' hj hoj hl hdj hrd' hn
  ·intro t c hl hs hn
   by_cases e:t=d
   ·subst e;rw [hrr] at hl;cases hl
   ·rw [Qaf e];exact hB t c hl hs hn
theorem Qwa {E:Env} {l:List Oper} {m:Nat} {sl:List (Nat×AV)} {G:List Bool→Xs} {Ms:List Nat} {A:List (List Nat)} {rd:List (Nat×AV)} (hone:Xfc E l m sl G Ms A rd) (hA:Xbp l m A=true) (hMs : ∀ k∈Ms,k<m) (hMn:Ms.Nodup)
    (hdist : ∀ i j oi oj d,i<m→j<m→l[i]? = some oi→l[j]? = some oj→oi.dst=some d→oj.dst=some d→i=j)
    (hrd : ∀ d r,rd.lookup d=some r→∃ j o,j<m∧l[j]? = some o∧o.dst=some d) (hedge : ∀ i o,i<m→l[i]? = some o→∀ j∈Qbn o,j<i) (htail : ∀ i o,m≤i→l[i]? = some o→∀ j,j<m→∃ e∈Qbn o,m≤e∨e=j∨j∈Qqc A e) (hml:m≤l.length)
    {Q:Exit→Act→World→Prop} (hseq:Region.seqB .any l.toArray (l.length - m) m (Qlo l.length m)=true)
    (hend : ∀ a w,Xbf E l m sl G Ms rd (Qlo l.length m) a w→wpList E.P l.toArray Q (l.drop m) a w) :
    ∀ (u:Nat) (listed:Array Bool) (a:Act) (w:World),listed.size=l.length→(∀ j,m≤j→listed.getD j false=false)→(List.range m).countP (fun j => !listed.getD j false)=u→Xbf E l m sl G Ms rd listed a w→wpAny E.P .any l.toArray Q (l.length - m+u) listed a w
  | 0,listed,a,w,hs,ht,hu,hinv=>by
    have hall : ∀ j,j<m→listed.getD j false=true:=by
      intro j hj
      have:=List.countP_eq_zero.1 hu j (by simpa using hj)
      simpa using this
    have e:listed=Qlo l.length m:=by
      apply Array.ext
      · simp [Qlo,hs];omega
      · intro j h1 h2
        have e1:listed.getD j false=listed[j]:=by rw [Array.getD_eq_getD_getElem?,Array.getElem?_eq_getElem h1];rfl
        rw [← e1]
        simp only [Qlo,List.getElem_toArray]
        by_cases hj:j<m
        · rw [hall j hj,List.getElem_append_left (by simpa using hj)];simp
        · rw [ht j (by omega),List.getElem_append_right (by simpa using hj)];simp
    subst e
    have h0:=hend a w hinv
    have:=wpAny_of_seq (md:=.any) (Q':=Q) (l.drop m) m (Qlo l.length m) a w (fun j=>by simp [List.getElem?_drop]) (by simpa using hseq) h0
    simpa using this
  | u+1,listed,a,w,hs,ht,hu,hinv=>by
    have hs':listed.size=l.toArray.size:=by simpa using hs
    have hex : ∃ j,j<m∧listed.getD j false=false:=by
      have : 0<(List.range m).countP (fun j => !listed.getD j false):=by omega
      obtain ⟨j,hj,hj2⟩:=List.countP_pos_iff.1 this
      exact ⟨j,by simpa using hj,by simpa using hj2⟩
    obtain ⟨j0,hj0,hj1⟩:=hex
    obtain ⟨i0,hi0,hi1,hi2⟩:=Qjm m j0 hj0 hj1
    rw [← Nat.add_assoc]
    refine ⟨fun hnil=>?_,fun i hi=>?_⟩
    · obtain ⟨o,ho⟩ : ∃ o,l[i0]? = some o:=⟨l[i0]'(by omega),by simp⟩
      have:i0∈Region.ready .any l.toArray listed:=(Qjx hs').2 ⟨o,by simpa using ho,hi1,fun j hj=>hi2 j (hedge i0 o hi0 ho j hj)⟩
      rw [hnil] at this;cases this
    · obtain ⟨o,ho,hl,hr⟩:=(Qjx hs').1 hi
      have ho:l[i]? = some o:=by simpa using ho
      have him:i<m:=by
        rcases Nat.lt_or_ge i m with h | h
        · exact h
        · obtain ⟨e,he,h1⟩:=htail i o h ho i0 hi0
          have hel:=hr e he
          have:listed.getD i0 false=true:=by
            rcases h1 with h1 | h1 | h1
            · rw [ht e h1] at hel;cases hel
            · rw [← h1];exact hel
            · have hem:e<m:=by
                rcases Nat.lt_or_ge e m with h2 | h2
                · exact h2
                · rw [ht e h2] at hel;cases hel
              exact Qm3 hA hml hedge hinv.1 e hem (fun oe hoe k hk=>hinv.1 e oe hem hoe hel k hk) i0 h1
          rw [hi1] at this;cases this
      refine Xas hone hA hml hMs hMn hdist hrd hedge him ho hr hl (by omega) hinv (fun a' w' hinv'=>?_)
      refine Qwa hone hA hMs hMn hdist hrd hedge htail hml hseq hend u _ a' w' (by simpa using hs) ?_ ?_ hinv'
      · intro j hj
        rw [Go.getD_set_ne false (by omega)]
        exact ht j hj
      · have:=Qkp (f:=fun j => !listed.getD j false) (g:=fun j => !(listed.setIfInBounds i true).getD j false) (i:=i) (l:=List.range m) List.nodup_range (by simpa using him) (by simp [hl]) (by
          have:i<listed.size:=by rw [hs];omega
          simp [this]) (fun j hj=>by simp only [Go.getD_set_ne false (Ne.symm hj)])
        omega
theorem Xb3 {E:Env} {id:Nat} {ops:Array Oper} {sl:List (Nat×AV)} {G:List Bool→Xs} {Ms:List Nat} {A:List (List Nat)} {rd:List (Nat×AV)} {Q:Exit→St→Prop} (m:Nat) (hm:E.P.follows .mixedOrders=true)
  (hh:Xhh ops.toList m=true) (ht:Xbl ops.toList m A=true) (hseq:Region.seqB .any ops (ops.toList.length - m) m (Qlo ops.toList.length m)=true)
  (hA:Xbp ops.toList m A=true) (hMs:Ms.all (fun k=>decide (k<m))=true) (hMn:Ms.Nodup) (hrd:rdB ops.toList m rd=true)
  (hone:Xfc E ops.toList m sl G Ms A rd) (h:RW E ops (ops.toList.drop m) ⟨rd++sl,(G (Ms.map fun _=>true)).1,(G (Ms.map fun _=>true)).2⟩ (Q .normal)) : TWp E (.region id ops true) Q ⟨sl,(G (Ms.map fun _=>false)).1,(G (Ms.map fun _=>false)).2⟩:=by
 obtain ⟨l⟩:=ops
 simp only at hh ht hseq hone h hA hrd
 simp only [Xhh,Bool.and_eq_true,decide_eq_true_eq,List.all_eq_true] at hh
 obtain ⟨⟨hh1,hh2⟩,hml⟩:=hh
 simp only [Xbl,List.all_eq_true] at ht
 have htk : ∀ i o,i<m→l[i]? = some o→(l.take m)[i]? = some o:=fun i o hi ho=>by rw [List.getElem?_take,if_pos hi];exact ho
 have hedge : ∀ i o,i<m→l[i]? = some o→∀ j∈Qbn o,j<i:=by
  intro i o hi ho j hj
  have:(o,i)∈(l.take m).zipIdx:=by
   rw [List.mem_zipIdx_iff_getElem?];exact htk i o hi ho
  simpa using hh1 _ this j hj
 have htail : ∀ i o,m≤i→l[i]? = some o→∀ j,j<m→∃ e∈Qbn o,m≤e∨e=j∨j∈Qqc A e:=by
  intro i o hi ho j hj
  have:(o,i)∈l.zipIdx.drop m:=by
   apply List.mem_of_getElem? (i:=i - m)
   rw [List.getElem?_drop,show m+(i - m)=i by omega,List.getElem?_zipIdx,ho]
   simp
  have:=ht _ this j (by simpa using hj)
  obtain ⟨e,he,h⟩:=List.any_eq_true.1 this
  refine ⟨e,he,?_⟩
  simp only [Bool.or_eq_true,decide_eq_true_eq,beq_iff_eq,List.contains_iff_mem] at h
  rcases h with (h | h) | h
  ·exact .inl h
  ·exact .inr (.inl h)
  ·exact .inr (.inr h)
 have hMs' : ∀ k∈Ms,k<m:=by
  intro k hk
  simpa using List.all_eq_true.1 hMs k hk
 have hdist : ∀ i j oi oj d,i<m→j<m→l[i]? = some oi→l[j]? = some oj→oi.dst=some d→oj.dst=some d→i=j:=fun i j oi oj d hi hj hoi hoj hdi hdj =>
  Qiu hh2 i j oi oj d (htk i oi hi hoi) (htk j oj hj hoj) hdi hdj
 have hrd' : ∀ d r,rd.lookup d=some r→∃ j o,j<m∧l[j]? = some o∧o.dst=some d:=by
  intro d r hl
  have h1:d∈rd.map (·.1):=List.mem_map.2 ⟨_,Qb6 hl,rfl⟩
  have h2:=List.all_eq_true.1 hrd d h1
  obtain ⟨o,ho,hdo⟩:=List.any_eq_true.1 h2
  obtain ⟨j,hj⟩:=List.mem_iff_getElem?.1 ho
  rw [List.getElem?_take] at hj
  split at hj
  ·exact ⟨j,o,by assumption,hj,by simpa using hdo⟩
  ·cases hj
 have hgd0 : ∀ (n j:Nat),(Array.replicate n false).getD j false=false:=fun n j=>by
  rw [Array.getD_eq_getD_getElem?,Array.getElem?_replicate]
  split <;> rfl
 have hc0:Xb5 Ms (Array.replicate l.length false)=Ms.map fun _=>false:=List.map_congr_left fun j _=>hgd0 _ j
 have hgd1 : ∀ j,j<m→(Qlo l.length m).getD j false=true:=fun j hj=>by
  rw [Array.getD_eq_getD_getElem?]
  simp only [Qlo,List.getElem?_toArray]
  rw [List.getElem?_append_left (by simpa using hj)]
  simp [hj]
 have hc1:Xb5 Ms (Qlo l.length m)=Ms.map fun _=>true:=List.map_congr_left fun j hj=>hgd1 j (hMs' j hj)
 intro a w hr
 refine wp_region_any hm ?_
 have hstart:Xbf E l m sl G Ms rd (Array.replicate l.length false) a { w with drawn:=w.drawn+1 }:=by
  refine ⟨fun i o _ _ hl=>(by rw [hgd0] at hl;cases hl),sl,?_,?_,fun t c _ h _=>h⟩
  ·rw [hc0]
   obtain ⟨χ,hd',h0⟩:=hr
   exact ⟨χ,hd',h0.world rfl rfl Tp.drew rfl⟩
  ·intro j o d r hj ho hl
   rw [hgd0] at hl;cases hl
 have hcnt:(List.range m).countP (fun j => !(Array.replicate l.length false).getD j false)=m:=by
  rw [List.countP_eq_length.2]
  ·simp
  ·intro j hj
   rw [hgd0];rfl
 have hfin : ∀ a w,Xbf E l m sl G Ms rd (Qlo l.length m) a w→wpList E.P l.toArray (fun e a' w' => ∃ s',Q e s'∧Rel E s' a' w') (l.drop m) a w:=by
  rintro a w ⟨_,sl2,hr0,hAA,hB⟩
  rw [hc1] at hr0
  obtain ⟨χ,hd',hr⟩:=hr0
  refine h a w _ ⟨χ,hd',hr.weak (s2:=⟨rd++sl,(G (Ms.map fun _=>true)).1,(G (Ms.map fun _=>true)).2⟩) (fun t=>?_) (fun _=>rfl) rfl⟩ (fun s' a' w' hs' hr'=>⟨s',hs',hr'⟩)
  simp only [St.get]
  cases hl:(rd++sl).lookup t with
  | none=>right;rfl
  | some c =>
   cases hn:c.nd with
   | false=>right;cases c <;> first | rfl | cases hn
   | true =>
    left
    rcases Qau _ _ _ _ hl with h | ⟨h1,h⟩
    ·obtain ⟨j,o,hj,ho,hdo⟩:=hrd' _ _ h
     rw [hAA j o t c hj ho (hgd1 j hj) hdo h hn]
    ·rw [hB t c h1 h hn]
 have:=Qwa (Q:=fun e a' w' => ∃ s',Q e s'∧Rel E s' a' w') hone hA hMs' hMn hdist hrd' hedge htail hml hseq hfin m (Array.replicate l.length false) a _ (by simp) (fun j _=>hgd0 _ j) hcnt hstart
 rw [show l.length - m+m=l.length by omega] at this
 simpa using this
end Go.T
set_option linter.unusedVariables false
namespace Go.T
open Go Go.RowKit
theorem Qci.recolor {E:Env} {s:St} {a:Act} {w:World} {χ:Nat→Option Nat} {hd:Nat→Value} (h:Qci E s a w χ hd) {k id:Nat} (hkJ:k≠JJ) (hidJ:id≠JJ) : Qci E (s.kill k) a w (fun b=>if χ b=some k then some id else χ b) hd:=by
  have hF:Qbg (fun b=>if χ b=some k then some id else χ b) w=Qbg χ w:=by
    funext b
    unfold Qbg
    by_cases hb : χ b=some k
    · simp [hb]
    · simp [hb]
  have hρ : ∀ j,j∈s.us→∀ x,tab (s.kill k) hd j=some x→tab s hd j=some x:=by
    intro j _ x hx
    by_cases hj:j=k
    · subst hj;simp [tab,St.root_kill_same] at hx
    · simpa [tab,St.root_kill_ne s hj] using hx
  refine ⟨h.defers,h.size,h.os,h.tape,h.output,h.hsz,h.frame,h.fx,h.jj,by
    by_cases hj:JJ=k
    · rw [hj];exact St.root_kill_same s k
    · rw [St.root_kill_ne s hj];exact h.rj,fun b hb=>by
    have h1:=h.jk b hb
    rw [if_neg (by rw [h1];exact fun e=>hkJ (by cases e;rfl))];exact h1,?_,?_,?_⟩
  · intro b r hr
    split at hr
    · rename_i hb
      cases hr
      obtain ⟨h1,h2⟩:=h.col b k hb
      exact ⟨fun _=>h1 hkJ,h2⟩
    · exact h.col b r hr
  · intro j Q hQ
    by_cases hj:j=k
    · subst hj;rw [St.root_kill_same] at hQ;cases hQ
    · rw [St.root_kill_ne s hj] at hQ
      obtain ⟨h1,fp,h2,h3,h4⟩:=h.rts j Q hQ
      rw [hF]
      refine ⟨h1,fp,h2.mono (fun _ x=>x) (fun _ _=>rfl) (fun _ _=>rfl) (fun _ x=>x) hρ,h3,fun b hb=>?_⟩
      have:=h4 b hb
      simp [this,hj]
  · intro t
    rw [hF]
    exact Qcd _ _ _ (h.slots t) (fun _ x=>x) (fun _ _=>rfl) (by simp) (fun _ x=>x) hρ
theorem Qci.shrink {E:Env} {s:St} {a:Act} {w:World} {χ:Nat→Option Nat} {hd:Nat→Value} (h:Qci E s a w χ hd) {k id m cap:Nat} {A:Option Addr} {R:Qae} (hR:s.root k=some R) (hid:id ∉ s.us) (hm:m≤R.xs.length) (hh:hd k = .slice A R.xs.length cap) :
    ∃ χ',Qci E ((s.kill k).add id ⟨R.T,R.sz,R.xs.take m⟩) a w χ' (fun j=>if j=id then .slice A m cap else hd j)∧∃ vs,w.ownsRow 0 R.T R.sz (.slice A m cap) (R.xs.take m).length vs:=by
  have hkJ:k≠JJ:=by
    intro e
    have:=h.rj
    rw [← e,hR] at this;cases this
  have hidJ:id≠JJ:=fun e=>hid (e ▸ h.jj)
  have h1:=h.recolor (k:=k) (id:=id) hkJ hidJ
  have hF:Qbg (fun b=>if χ b=some k then some id else χ b) w=Qbg χ w:=by
    funext b
    unfold Qbg
    by_cases hb : χ b=some k
    · simp [hb]
    · simp [hb]
  have hρ : ∀ j,j∈s.us→∀ x,tab (s.kill k) hd j=some x→tab s hd j=some x:=by
    intro j _ x hx
    by_cases hj:j=k
    · subst hj;simp [tab,St.root_kill_same] at hx
    · simpa [tab,St.root_kill_ne s hj] using hx
  obtain ⟨_,fp,⟨hz,vs,fp',hown,hrep,rfl⟩,hnd,hcol⟩:=h.rts k R hR
  have e1:R.xs=R.xs.take m++R.xs.drop m:=(List.take_append_drop m R.xs).symm
  have hrep':=hrep
  rw [e1] at hrep'
  obtain ⟨v1,v2,f1,f2,rfl,rfl,hl1,k1,k2⟩:=Qe6 _ _ _ _ hrep'
  have hlm:(R.xs.take m).length=m:=by rw [List.length_take];omega
  rw [hlm] at hl1
  have hob:(Value.slice A m cap).ownBlock=(hd k).ownBlock:=by rw [hh];cases A <;> rfl
  have hown2:w.ownsRow 0 R.T R.sz (.slice A m cap) (R.xs.take m).length v1:=by
    rw [hlm]
    refine ⟨hl1,?_⟩
    rcases hown.2 with ⟨h0,h1⟩ | ⟨g,c,cur,h0,hb,hg,r1,r2,r3,r4⟩
    · rw [hh] at h0
      injection h0 with x1 x2 x3
      left
      have:m=0:=by omega
      subst this
      exact ⟨by rw [x1,x3],rfl⟩
    · rw [hh] at h0
      cases h0
      refine .inr ⟨g,_,cur,rfl,hb,hg,by omega,r2,r3,?_⟩
      have:(cur.toList.take (R.xs.length * R.sz)).take (m * R.sz)=(v1++v2).take (m * R.sz):=by rw [r4]
      rw [List.take_take,Nat.min_eq_left (Nat.mul_le_mul_right _ hm),← hl1,List.take_left] at this
      rw [← hl1];exact this
  refine ⟨_,h1.addRoot (i:=id) (v:=.slice A m cap) (fp:=(Value.slice A m cap).ownBlock.toList++f1) (by exact hid) ⟨hz,v1,f1,hown2,?_,rfl⟩ ?_ ?_,v1,hown2⟩
  · rw [hF]
    exact Qdi (fun _ x=>x) (fun _ _=>rfl) (fun _ x=>x) hρ _ _ _ k1 (fun _ _=>rfl)
  · rw [hob]
    refine List.Nodup.sublist ?_ hnd
    exact List.Sublist.append (List.Sublist.refl _) (List.sublist_append_left _ _)
  · intro b hb
    rw [hob] at hb
    have:=hcol b (by
      rcases List.mem_append.1 hb with hb | hb
      · exact List.mem_append_left _ hb
      · exact List.mem_append_right _ (List.mem_append_left _ hb))
    simp [this]
theorem Xf8 {E:Env} {Θ:Tys} (hΘ:TOK E.P Θ) {o:Oper} {s:St} {t el:Nat} {x y:Operand} {ti te:TI} (hop:o.op = .slice t x none (some y) none) (hd:okD E.n o.dst=true)
  (hti:Θ.lookup t=some ti) (hun:ti.und = .slice el) (hte:Θ.lookup el=some te) {k len:Nat} {R:Qae} (hx:Qal s x = .sl k 0 len) (hR:s.root k=some R) {hh:Int} {kk:IntKind} (hhi:Qal s y = .lit (.int kk hh)) (h0 : 0≤hh) (h1:hh≤(R.xs.length:Int)) (hl:len=R.xs.length) {id:Nat} (hid:id ∉ s.us) :
  Qm5 E o s (((s.kill k).add id ⟨R.T,R.sz,R.xs.take hh.toNat⟩).putO o.dst (.sl id 0 hh.toNat)):=by
 rintro a w ⟨χ,hd',h⟩ K Q hK
 subst hl
 have hu:=run_underlying (P:=E.P) (w:=w) (d:=.slice el) (by rw [Qas (hΘ.get hti),hun])
 have hte':=Qco (P:=E.P) (w:=w) (hΘ.get hte)
 have rx:=Qak h x
 rw [hx] at rx
 simp only [repR] at rx
 obtain ⟨_,hus,rx⟩:=rx
 obtain ⟨hle,⟨A,cap,hv,hcap,hA0,hA⟩,hcp⟩:=rx (hd' k) R.xs.length R.sz (by simp [tab,hR])
 have ry:=Qak h y
 rw [hhi] at ry
 simp only [repR,rep] at ry
 obtain ⟨_,ry⟩:=ry
 have ry:=ry.eq (by rfl)
 obtain ⟨m0,hm0⟩:=hA0 rfl
 have hm0':hd' k = .slice A R.xs.length cap:=by
  obtain ⟨_,fp,⟨_,vs,fp',hown,_⟩,_⟩:=h.rts k R hR
  rw [hm0]
  rcases hown.2 with ⟨h1,h2⟩ | ⟨g,c,cur,h1,_⟩
  ·rw [hm0] at h1;cases h1;rw [h2]
  ·rw [hm0] at h1;cases h1;rfl
 obtain ⟨χ',hrel,vs,hown⟩:=h.shrink (m:=hh.toNat) hR hid (by omega) hm0'
 have hlm:(R.xs.take hh.toNat).length=hh.toNat:=by rw [List.length_take];omega
 have hb:(Instr.sliceBounds true R.xs.length cap none (some (a.eval y)) none).run E.P w = .ok (0,hh.toNat,cap) w:=by
  rw [ry]
  have b1 : ∀ (k:IntKind) (i:Int) (y:Nat) (code:BoundsCode),0≤i→i≤y→(Instr.sliceBound (.int k i) y code).run E.P w = .ok i.toNat w:=fun k i y code a b=>by
   simp [Instr.sliceBound,asIntOf,a,b]
  have e2:=b1 kk hh cap .sliceAcap (by omega) (by omega)
  simp [Instr.sliceBounds,e2]
 refine Qei (v:=.slice A hh.toNat cap) (w':=w) ?_ (hK _ _ ⟨χ',_,hrel.putO hd ?_⟩)
 ·obtain ⟨dst,op,type,pos,after,guard⟩:=o
  simp only at hop
  subst hop
  simp only [execOp,Instr.sliceAt,hv,Instr.slice,Sem.run_bind,hu,Result.andThen_ok,hb,hte',Option.map_none,Option.map_some,Sem.run_pure]
  congr 1
  simp only [Nat.zero_mul,Nat.sub_zero]
  split
  ·rfl
  ·cases A <;> simp [Addr.add]
 ·simp only [repR]
  refine ⟨trivial,List.mem_cons_self,?_⟩
  intro h' n' sz' hh2
  simp [tab,St.root_add_same] at hh2
  obtain ⟨rfl,rfl,rfl⟩:=hh2
  have:=Qjz hown
  rw [hlm] at this
  exact ⟨by omega,this,by have:=Qj2 hown;simp only [List.length_take] at *; omega⟩
end Go.T
set_option linter.unusedVariables false
namespace Go.T
open Go Go.RowKit
theorem Qq5 {w:World} {S U:Nat→Prop} {ρ:Tab} : ∀ {x:List AV} {us:List Value} {f:List Nat},Qah w S U ρ x us f→∀ (o:Nat),∃ f',Qah w S U ρ (x.set o .dead) us f'∧f'.Sublist f
 | [],us,f,h,o=>⟨f,by simpa using h,List.Sublist.refl _⟩
 | c :: cs,us,f,h,o=>by
  simp only [Qah] at h
  obtain ⟨u,us',f1,f2,rfl,rfl,k1,k2⟩:=h
  cases o with
  | zero =>
   refine ⟨f2,?_,List.sublist_append_right _ _⟩
   simp only [List.set_cons_zero,Qah]
   exact ⟨u,us',[],f2,rfl,rfl,by simp [repR,rep],k2⟩
  | succ o =>
   obtain ⟨f',h1,h2⟩:=Qq5 k2 o
   refine ⟨f1++f',?_,List.Sublist.append (List.Sublist.refl _) h2⟩
   simp only [List.set_cons_succ,Qah]
   exact ⟨u,us',f1,f',rfl,rfl,k1,h1⟩
theorem Qci.forget {E:Env} {s:St} {a:Act} {w:World} {χ:Nat→Option Nat} {hd:Nat→Value} (h:Qci E s a w χ hd) {i:Nat} {R:Qae} (hR:s.root i=some R) {e o:Nat} {x:List AV} (he:R.xs[e]? = some x) :
  Qci E (s.setR i ⟨R.T,R.sz,R.xs.set e (x.set o .dead)⟩) a w χ hd:=by
 obtain ⟨hus,fp,⟨hz,vs,fp',hown,hrep,rfl⟩,hnd,hcol⟩:=h.rts i R hR
 have helt:e<R.xs.length:=(List.getElem?_eq_some_iff.1 he).1
 obtain ⟨v1,us,v2,f1,fe,f2,rfl,rfl,hl1,hlus,h1c,k1,kx,k2⟩:=Qg8 hrep he
 obtain ⟨fe',kx',hsub⟩:=Qq5 kx o
 have hij:i≠JJ:=fun e=>by rw [e,h.rj] at hR;cases hR
 have htab:tab (s.setR i ⟨R.T,R.sz,R.xs.set e (x.set o .dead)⟩) hd=tab s hd:=by
  funext j
  by_cases hj:j=i
  ·subst hj;simp [tab,St.root_setR_same,hR]
  ·simp [tab,St.root_setR_ne s hj]
 have hs2:((hd i).ownBlock.toList++(f1++fe'++f2)).Sublist ((hd i).ownBlock.toList++(f1++fe++f2)):=
  List.Sublist.append (List.Sublist.refl _) (List.Sublist.append (List.Sublist.append (List.Sublist.refl _) hsub) (List.Sublist.refl _))
 refine ⟨h.defers,h.size,h.os,h.tape,h.output,h.hsz,h.frame,h.fx,h.jj,by rw [St.root_setR_ne s (Ne.symm hij)];exact h.rj,h.jk,h.col,?_,?_⟩
 ·intro j Q hQ
  rw [htab]
  by_cases hj:j=i
  ·subst hj
   rw [St.root_setR_same] at hQ
   cases hQ
   exact ⟨hus,_,⟨hz,v1++us++v2,f1++fe'++f2,by rw [List.length_set];exact hown,Qip helt k1 hlus h1c kx' k2,rfl⟩,hnd.sublist hs2,fun b hb=>hcol b (hs2.subset hb)⟩
  ·rw [St.root_setR_ne s hj] at hQ
   exact h.rts j Q hQ
 ·intro t
  rw [htab]
  exact h.slots t
end Go.T
set_option linter.unusedVariables false
namespace Go.T
open Go Go.RowKit Go.Proofs
theorem Qtg {E:Env} {o:Oper} {s:St} {x:Operand} {f:FuncId} {caps:List AV} {args:Array Operand} {tys:Array TypeId} (ho:o.op = .call ⟨.value x,args,tys⟩) (hx:Qal s x = .fn f caps) (hd:okD E.n o.dst=true) (ht:Qeq (args.toList.map (Qal s)++caps)=true) {res:AV} (hm:Qab E.P f (args.toList.map (Qal s)++caps) res)
    (ids:List Nat) (hin:ids.Nodup) (hids : ∀ i∈ids,i ∉ s.us) : Qm5 E o s ((s.addL (rtf res ids).2.1).putO o.dst (rtf res ids).1):=by
  rintro a w ⟨χ,hd',h⟩ K Q hk
  obtain ⟨dst,op,type,pos,after,guard⟩:=o
  simp only at ho hd hk
  subst ho
  obtain ⟨hent,hm⟩:=hm
  have hxr:=Qak h x
  rw [hx] at hxr
  simp only [repR] at hxr
  obtain ⟨vs,hxv,hcr⟩:=hxr
  have hargs:=Qe8 _ _ _ (Qdy (Qi0 h args.toList) hcr) ht
  have hc:=hm w (Qbg χ w) _ hargs (fun _ h=>h.2)
  have hrun:(execOp a.eval ⟨dst,.call ⟨.value x,args,tys⟩,type,pos,after,guard⟩).run E.P w = .ok (.enter f (args.toList.map a.eval++vs).toArray) w:=by
    have e1:(args.toList.map a.eval++vs).toArray=args.map a.eval++vs.toArray:=by
      rw [← Array.toList_map]
      apply Array.ext'
      simp
    simp only [execOp,resolve,hxv,invoke,Deferred.ofValue,Sem.run_bind,Sem.run_pure,Result.andThen_ok]
    simp only [Array.empty_append]
    rw [e1]
    exact hent _ w
  unfold Oper.wp
  rw [hrun]
  show Calls E.P f _ w _
  refine hc.mono ?_
  rintro e w' ⟨v,fp,rfl,hb,hdr,hr,hn,hge⟩
  show K _ _
  obtain ⟨κ,hκ⟩ : ∃ κ:Nat,κ ∉ s.us∧κ ∉ ids∧κ≠JJ:=by
    have : ∃ κ:Nat,∀ x∈s.us++ids++[JJ],x<κ:=by
      generalize s.us++ids++[JJ]=l
      induction l with
      | nil=>exact ⟨0,by simp⟩
      | cons y l ih =>
        obtain ⟨κ,hκ⟩:=ih
        refine ⟨max κ (y+1),?_⟩
        intro x hx
        rcases List.mem_cons.1 hx with rfl | hx
        · omega
        · have:=hκ x hx;omega
    obtain ⟨κ,hκ⟩:=this
    refine ⟨κ,fun hm=>?_,fun hm=>?_,fun hm=>?_⟩
    · have:=hκ κ (by simp [hm]);omega
    · have:=hκ κ (by simp [hm]);omega
    · have:=hκ JJ (by simp);omega
  have hlt:=Qp0 _ _ _ hr
  have h1:=h.grow hb hdr (fun b=>if b∈fp then some κ else none) (fun b r hbr=>by
    split at hbr
    · rename_i hm;exact hlt b hm
    · cases hbr)
  have hr2:rep w' (Qbg (fun b=>if b<w.heap.size then χ b else if b∈fp then some κ else none) w') res v fp:=by
    refine Qbl _ _ _ hr (fun b hb=>⟨?_,hb.2.1⟩) (fun _ _=>rfl) (fun _ _=>rfl)
    by_cases hlt:b<w.heap.size
    · simp only [hlt,if_true]
      rcases hb.1 with h2 | h2
      · exact h2.1
      · omega
    · simp only [hlt,hb.2.2,if_false]
  obtain ⟨χ2,hd2,n2,r2,_,_,_⟩:=Qnu (κ:=κ) res v fp ids s _ hd' h1 hr2 hn (fun b hb=>by
      have:=hge b hb
      rw [if_neg (by omega),if_pos hb]) (fun b hb=>by have:=hge b hb;have:=h.hsz;omega) (fun b hb hj=>by
      have h3:=h.jk b hj
      have h4:=(h.col b _ h3).2
      have:=hge b hb
      omega) (fun R i hR=>fun e=>hκ.1 (e ▸ (h.rts i R hR).1)) hin (fun i hi=>⟨hids i hi,fun e=>hκ.2.1 (e ▸ hi)⟩)
  exact hk _ _ ⟨χ2,hd2,n2.rel.putO hd r2⟩
end Go.T
set_option linter.unusedVariables false
namespace Go.T
open Go Go.RowKit Go.Proofs
def hid (V:Nat→Value) (ks:List Nat) : Nat→List AV→List AV
 | _,[]=>[]
 | k,c :: cs=>(if ks.contains k then .lit (V k) else c) :: hid V ks (k+1) cs
def unh (ks:List Nat) : Nat→List AV→List AV→List AV
 | k,c :: cs,d :: ds=>(if ks.contains k then c else d) :: unh ks (k+1) cs ds
 | _,_,ds=>ds
def hidC (s:St) (i:Nat) : AV→Bool
 | .sl j _ _ => !(j == i) && (s.root j).isSome
 | _=>false
def Qul (s:St) (i:Nat) (ks:List Nat) : Nat→List AV→Bool
 | _,[]=>true
 | k,c :: cs=>(if ks.contains k then hidC s i c else true) && Qul s i ks (k+1) cs
theorem Qvr {s:St} {i:Nat} {c:AV} (h:hidC s i c=true) : ∃ j o n R,c = .sl j o n∧j≠i∧s.root j=some R:=by
 unfold hidC at h
 split at h
 ·rename_i j o n
  simp only [Bool.and_eq_true,Bool.not_eq_true',beq_eq_false_iff_ne] at h
  obtain ⟨R,hR⟩:=Option.isSome_iff_exists.1 h.2
  exact ⟨j,o,n,R,rfl,h.1,hR⟩
 ·cases h
theorem Qqx {s:St} {i:Nat} {ks:List Nat} : ∀ {x:List AV} {k:Nat},Qul s i ks k x=true→∀ {m:Nat} {c:AV},x[m]? = some c→ks.contains (k+m)=true→hidC s i c=true
 | [],k,h,m,c,hc,_=>by simp at hc
 | d :: ds,k,h,m,c,hc,hk=>by
  simp only [Qul,Bool.and_eq_true] at h
  cases m with
  | zero =>
   simp only [List.getElem?_cons_zero,Option.some.injEq] at hc
   subst hc
   rw [Nat.add_zero] at hk
   have:=h.1
   rwa [if_pos hk] at this
  | succ m =>
   rw [List.getElem?_cons_succ] at hc
   exact Qqx h.2 hc (by rw [show k+1+m=k+(m+1) by omega];exact hk)
theorem Qw8 {w:World} {S U:Nat→Prop} {ρ:Tab} {ks:List Nat} {V:Nat→Value} : ∀ {x:List AV} {us:List Value} {f:List Nat} {k:Nat},Qah w S U ρ x us f→(∀ m u,us[m]? = some u→V (k+m)=u)→(∀ m c,x[m]? = some c→ks.contains (k+m)=true→∀ u f',repR w S U ρ c u f'→f'=[])→Qah w S U ρ (hid V ks k x) us f
 | [],us,f,k,h,_,_=>h
 | c :: cs,us,f,k,h,hV,hn=>by
  simp only [Qah,hid] at h ⊢
  obtain ⟨u,us',f1,f2,rfl,rfl,k1,k2⟩:=h
  refine ⟨u,us',f1,f2,rfl,rfl,?_,Qw8 k2 (fun m v hm=>?_) (fun m d hm hk=>?_)⟩
  ·by_cases hc:ks.contains k=true
   ·rw [if_pos hc]
    have:=hn 0 c rfl (by simpa using hc) u f1 k1
    subst this
    have e:=hV 0 u rfl
    rw [Nat.add_zero] at e
    rw [e]
    exact Qcs u
   ·rw [if_neg hc];exact k1
  ·rw [show k+1+m=k+(m+1) by omega];exact hV (m+1) v (by simpa using hm)
  ·exact hn (m+1) d (by simpa using hm) (by rw [show k+(m+1)=k+1+m by omega];exact hk)
theorem Qx1 {w:World} {S U:Nat→Prop} {ρ:Tab} : ∀ {x:List AV} {us:List Value} {f:List Nat},Qah w S U ρ x us f→∀ {m:Nat} {c:AV},x[m]? = some c→∃ u f',us[m]? = some u∧repR w S U ρ c u f'
 | [],us,f,h,m,c,hc=>by simp at hc
 | d :: ds,us,f,h,m,c,hc=>by
  simp only [Qah] at h
  obtain ⟨u,us',f1,f2,rfl,rfl,k1,k2⟩:=h
  cases m with
  | zero=>simp at hc;subst hc;exact ⟨u,f1,rfl,k1⟩
  | succ m=>simpa using Qx1 k2 (by simpa using hc)
theorem Qy0 {w:World} {S U:Nat→Prop} {ρ:Tab} {ks:List Nat} {V:Nat→Value} : ∀ {x y:List AV} {us:List Value} {f:List Nat} {k:Nat},x.length=y.length→Qah w S U ρ (hid V ks k y) us f→(∀ m c,x[m]? = some c→ks.contains (k+m)=true→nf (V (k+m))=true∧repR w S U ρ c (V (k+m)) [])→Qah w S U ρ (unh ks k x y) us f
 | [],[],us,f,k,_,h,_=>by simpa [hid,unh] using h
 | [],d :: ds,us,f,k,hl,h,_=>by simp at hl
 | c :: cs,[],us,f,k,hl,h,_=>by simp at hl
 | c :: cs,d :: ds,us,f,k,hl,h,hn=>by
  simp only [Qah,hid,unh] at h ⊢
  obtain ⟨u,us',f1,f2,rfl,rfl,k1,k2⟩:=h
  refine ⟨u,us',f1,f2,rfl,rfl,?_,Qy0 (by simpa using hl) k2 (fun m e hm hk=>?_)⟩
  ·by_cases hc:ks.contains k=true
   ·rw [if_pos hc] at k1 ⊢
    obtain ⟨n1,n2⟩:=hn 0 c rfl (by simpa using hc)
    rw [Nat.add_zero] at n1 n2
    simp only [repR,rep] at k1
    obtain ⟨rfl,hv⟩:=k1
    rw [VEq.eq hv n1]
    exact n2
   ·rw [if_neg hc] at k1 ⊢; exact k1
  ·have:=hn (m+1) e (by simpa using hm) (by rw [show k+(m+1)=k+1+m by omega];exact hk)
   rwa [show k+(m+1)=k+1+m by omega] at this
theorem Qtc {w:World} {S U:Nat→Prop} {ρ:Tab} {j o n:Nat} {u:Value} {f:List Nat} (h:repR w S U ρ (.sl j o n) u f) : f=[]:=by simp only [repR] at h;exact h.1
theorem Qci.hide {E:Env} {s:St} {a:Act} {w:World} {χ:Nat→Option Nat} {hd:Nat→Value} (h:Qci E s a w χ hd) {i:Nat} {R:Qae} (hR:s.root i=some R) {e:Nat} {x:List AV} (he:R.xs[e]? = some x) {ks:List Nat} (hok:Qul s i ks 0 x=true) :
    ∃ V:Nat→Value,Qci E (s.setR i ⟨R.T,R.sz,R.xs.set e (hid V ks 0 x)⟩) a w χ hd∧∀ m c,x[m]? = some c→ks.contains m=true→nf (V m)=true∧repR w (Qbg χ w) (· ∈ s.us) (tab s hd) c (V m) []:=by
  obtain ⟨hus,fp,⟨hz,vs,fp',hown,hrep,rfl⟩,hnd,hcol⟩:=h.rts i R hR
  have helt:e<R.xs.length:=(List.getElem?_eq_some_iff.1 he).1
  obtain ⟨v1,us,v2,f1,fe,f2,rfl,rfl,hl1,hlus,h1c,k1,kx,k2⟩:=Qg8 hrep he
  let V:Nat→Value:=fun k=>(us[k]?).getD undef
  have hV : ∀ m u,us[m]? = some u→V (0+m)=u:=fun m u hm=>by simp only [V,Nat.zero_add,hm,Option.getD_some]
  have kx':Qah w (Qbg χ w) (· ∈ s.us) (tab s hd) (hid V ks 0 x) us fe:=Qw8 kx hV (fun m c hm hk u f' hr=>by
    obtain ⟨j,o,n,R',rfl,_,_⟩:=Qvr (Qqx hok hm hk)
    exact Qtc hr)
  have hij:i≠JJ:=fun e=>by rw [e,h.rj] at hR;cases hR
  have htab:tab (s.setR i ⟨R.T,R.sz,R.xs.set e (hid V ks 0 x)⟩) hd=tab s hd:=by
    funext j
    by_cases hj:j=i
    · subst hj;simp [tab,St.root_setR_same,hR]
    · simp [tab,St.root_setR_ne s hj]
  refine ⟨V,⟨h.defers,h.size,h.os,h.tape,h.output,h.hsz,h.frame,h.fx,h.jj,by rw [St.root_setR_ne s (Ne.symm hij)];exact h.rj,h.jk,h.col,?_,?_⟩,?_⟩
  · intro j Q hQ
    rw [htab]
    by_cases hj:j=i
    · subst hj
      rw [St.root_setR_same] at hQ
      cases hQ
      exact ⟨hus,_,⟨hz,v1++us++v2,f1++fe++f2,by rw [List.length_set];exact hown,Qip helt k1 hlus h1c kx' k2,rfl⟩,hnd,hcol⟩
    · rw [St.root_setR_ne s hj] at hQ
      exact h.rts j Q hQ
  · intro t
    rw [htab]
    exact h.slots t
  · intro m c hm hk
    obtain ⟨j,o,n,R',rfl,_,hRj⟩:=Qvr (Qqx hok hm (by rw [Nat.zero_add];exact hk))
    obtain ⟨u,f',hu,hr⟩:=Qx1 kx hm
    have e1:=hV m u hu
    rw [Nat.zero_add] at e1
    have e2:=Qtc hr
    subst e2
    rw [e1]
    refine ⟨?_,hr⟩
    simp only [repR] at hr
    obtain ⟨_,hs,_⟩:=hr.2.2 (hd j) R'.xs.length R'.sz (by simp [tab,hRj])
    obtain ⟨A,cap,rfl,_⟩:=hs
    rfl
theorem Qci.unhide {E:Env} {s:St} {a:Act} {w:World} {χ:Nat→Option Nat} {hd:Nat→Value} (h:Qci E s a w χ hd) {i T sz:Nat} {V:Nat→Value} {ks:List Nat} {x y:List AV} (hR:s.root i=some ⟨T,sz,[hid V ks 0 y]⟩) (hl:x.length=y.length)
    (hn : ∀ m c,x[m]? = some c→ks.contains m=true→nf (V m)=true∧repR w (Qbg χ w) (· ∈ s.us) (tab s hd) c (V m) []) : Qci E (s.setR i ⟨T,sz,[unh ks 0 x y]⟩) a w χ hd:=by
  obtain ⟨hus,fp,⟨hz,vs,fp',hown,hrep,rfl⟩,hnd,hcol⟩:=h.rts i _ hR
  obtain ⟨v1,us,v2,f1,fe,f2,rfl,rfl,hl1,hlus,h1c,k1,kx,k2⟩:=Qg8 hrep (e:=0) (x:=hid V ks 0 y) rfl
  have kx':Qah w (Qbg χ w) (· ∈ s.us) (tab s hd) (unh ks 0 x y) us fe:=Qy0 hl kx (fun m c hm hk=>by
    rw [Nat.zero_add] at hk ⊢; exact hn m c hm hk)
  have hij:i≠JJ:=fun e=>by rw [e,h.rj] at hR;cases hR
  have htab:tab (s.setR i ⟨T,sz,[unh ks 0 x y]⟩) hd=tab s hd:=by
    funext j
    by_cases hj:j=i
    · subst hj;simp [tab,St.root_setR_same,hR]
    · simp [tab,St.root_setR_ne s hj]
  refine ⟨h.defers,h.size,h.os,h.tape,h.output,h.hsz,h.frame,h.fx,h.jj,by rw [St.root_setR_ne s (Ne.symm hij)];exact h.rj,h.jk,h.col,?_,?_⟩
  · intro j Q hQ
    rw [htab]
    by_cases hj:j=i
    · subst hj
      rw [St.root_setR_same] at hQ
      cases hQ
      have hset:=Qip (xs:=[hid V ks 0 y]) (e:=0) (by simp) k1 hlus h1c kx' k2
      exact ⟨hus,_,⟨hz,v1++us++v2,f1++fe++f2,hown,hset,rfl⟩,hnd,hcol⟩
    · rw [St.root_setR_ne s hj] at hQ
      exact h.rts j Q hQ
  · intro t
    rw [htab]
    exact h.slots t
theorem Qci.congrO {E:Env} {s s':St} {a:Act} {w:World} {χ:Nat→Option Nat} {hd:Nat→Value} (h:Qci E s a w χ hd) (hr : ∀ j,s'.root j=s.root j) (hg : ∀ t,s'.get t=s.get t) (hu:s'.us=s.us) : Qci E s' a w χ hd:=by
 have ht:tab s' hd=tab s hd:=by funext j;simp only [tab,hr]
 refine ⟨h.defers,h.size,h.os,h.tape,h.output,h.hsz,h.frame,by rw [hu];exact h.fx,by rw [hu];exact h.jj,by rw [hr];exact h.rj,h.jk,h.col,?_,?_⟩
 ·intro i R hR
  rw [hr] at hR
  rw [hu,ht]
  exact h.rts i R hR
 ·intro t
  rw [hu,ht,hg]
  exact h.slots t
mutual
theorem Xc6 {s:St} {i:Nat} {R:Qae} {π:List (Nat×Nat)} {k:Nat} (hπ : π.lookup i=some k) : ∀ x:AV,Qid (s.setR i R) π x=Qid s π x
 | .lit _=>by simp only [Qid]
 | .ro _ _=>by simp only [Qid]
 | .rop _ _=>by simp only [Qid]
 | .sl j _ _=>by
  simp only [Qid]
  cases hj : π.lookup j with
  | some _=>rfl
  | none=>rw [St.root_setR_ne s (by intro e;subst e;rw [hπ] at hj;cases hj)]
 | .ptr j e _=>by
  simp only [Qid]
  cases hj : π.lookup j with
  | some _=>rfl
  | none=>rw [St.root_setR_ne s (by intro e;subst e;rw [hπ] at hj;cases hj)]
 | .agg cs=>by simp only [Qid,Qmd hπ cs]
 | .fn _ cs=>by simp only [Qid,Qmd hπ cs]
 | .dead=>by simp only [Qid]
 | .own _ _ _=>by simp only [Qid]
 | .tup _=>by simp only [Qid]
theorem Qmd {s:St} {i:Nat} {R:Qae} {π:List (Nat×Nat)} {k:Nat} (hπ : π.lookup i=some k) : ∀ xs:List AV,Qii (s.setR i R) π xs=Qii s π xs
 | []=>by simp only [Qii]
 | c :: cs=>by simp only [Qii,Xc6 hπ c,Qmd hπ cs]
end
theorem Qt3 {E:Env} {o:Oper} {s:St} {x:Operand} {f:FuncId} {caps:List AV} {args:Array Operand} {tys:Array TypeId} (ho:o.op = .call ⟨.value x,args,tys⟩) (hx:Qal s x = .fn f caps) (hd:okD E.n o.dst=true)
    {i T sz:Nat} {ks:List Nat} {cx cy:List AV} {outs:List AV} {res:AV} (hrt:s.root i=some ⟨T,sz,[cx]⟩) (hok:Qul s i ks 0 cx=true) (hlen:cx.length=cy.length) (ht : ∀ V,Qa1 [hid V ks 0 cx]=true∧Qa4 [hid V ks 0 cx]=true)
    (hout:Qii s [(i,0)] (args.toList.map (Qal s)++caps)=some outs) (hm : ∀ V,Qaw E.pk f [⟨T,sz,[hid V ks 0 cx]⟩] outs [true] [⟨T,sz,[hid V ks 0 cy]⟩] res) (hl:(rtf (Qe3 (Qm0 [i] [true]) res) []).2.1=[]) :
    Qm5 E o s ((s.back [(i,some ⟨T,sz,[unh ks 0 cx cy]⟩)]).putO o.dst (rtf (Qe3 (Qm0 [i] [true]) res) []).1):=by
  rintro a w ⟨χ,hd',h⟩ K Q hk
  obtain ⟨V,hV,hval⟩:=h.hide hrt (e:=0) (x:=cx) rfl (ks:=ks) hok
  have hij:i≠JJ:=fun e=>by rw [e,h.rj] at hrt;cases hrt
  let E':Env:=⟨E.P,E.w0,E.n,E.In,E.Jk,s.us.map fun j=>(j,hd' j),E.K,E.k0⟩
  let sV:=s.setR i ⟨T,sz,[hid V ks 0 cx]⟩
  have h1:Qci E' sV a w χ hd':=⟨hV.defers,hV.size,hV.os,hV.tape,hV.output,hV.hsz,hV.frame,fun p hp=>by
      obtain ⟨j,hj,rfl⟩:=List.mem_map.1 hp
      exact ⟨hj,rfl⟩,hV.jj,hV.rj,hV.jk,hV.col,hV.rts,hV.slots⟩
  have hop:Qal sV=Qal s:=by funext y;cases y <;> rfl
  refine Qpy (E:=E') (s:=sV) (ρ:=[i]) (ks:=[true]) (rs:=[⟨T,sz,[hid V ks 0 cx]⟩]) (rs':=[⟨T,sz,[hid V ks 0 cy]⟩]) (outs:=outs) (res:=res) ho (by rw [hop];exact hx) hd (by simp) ⟨St.root_setR_same s i _,trivial⟩ (fun R hR=>by
      simp only [List.mem_singleton] at hR
      subst hR
      exact ht V) rfl (by simp [Qpv]) ⟨rfl,trivial⟩ (by rw [hop];exact (Qmd (k:=0) (by simp) _).trans hout) (hm V) [] (by simp) (by simp) a w ⟨χ,hd',h1⟩ K Q ?_
  rintro a' w' ⟨χ2,hd2,h2⟩
  refine hk a' w' ⟨χ2,hd2,?_⟩
  rw [hl] at h2
  have hrs : ∀ (q:St) (d:Option Nat) (v:AV) (j:Nat),(q.putO d v).root j=q.root j:=fun q d v j=>by cases d <;> rfl
  have hfx:=h2.fx
  have htb : ∀ j,j∈s.us→j≠i→tab (St.putO (sV.back (Qk0 [i] [true] [⟨T,sz,[hid V ks 0 cy]⟩])) o.dst (rtf (Qe3 (Qm0 [i] [true]) res) []).1) hd2 j=tab s hd' j:=by
    intro j hj hne
    have e1:=(hfx (j,hd' j) (List.mem_map.2 ⟨j,hj,rfl⟩)).2
    simp only at e1
    simp only [tab,hrs,Qju,Qk0,Qaf hne,List.lookup_nil,Option.getD_none]
    rw [show sV.root j=s.root j from St.root_setR_ne s hne _,e1]
  have h3:=h2.unhide (i:=i) (T:=T) (sz:=sz) (V:=V) (ks:=ks) (x:=cx) (y:=cy) (by
      show (St.putO (sV.back (Qk0 [i] [true] [⟨T,sz,[hid V ks 0 cy]⟩])) _ _).root i=_
      rw [hrs,Qju]
      simp [Qk0]) hlen (fun m c hm hk=>by
      obtain ⟨n1,n2⟩:=hval m c hm hk
      refine ⟨n1,?_⟩
      obtain ⟨j,q,n,R,rfl,hne,hRj⟩:=Qvr (Qqx hok hm (by rw [Nat.zero_add];exact hk))
      have hju:=(h.rts j R hRj).1
      simp only [repR] at n2 ⊢
      refine ⟨trivial,(hfx (j,hd' j) (List.mem_map.2 ⟨j,hju,rfl⟩)).1,fun p r z hh=>n2.2.2 p r z ?_⟩
      rw [← htb j hju hne]
      exact hh)
  have h4:Qci E _ a' w' χ2 hd2:=⟨h3.defers,h3.size,h3.os,h3.tape,h3.output,h3.hsz,h3.frame,fun p hp=>by
      obtain ⟨p1,p2⟩:=h.fx p hp
      have:=hfx (p.1,hd' p.1) (List.mem_map.2 ⟨p.1,p1,rfl⟩)
      exact ⟨this.1,this.2.trans p2⟩,h3.jj,h3.rj,h3.jk,h3.col,h3.rts,h3.slots⟩
  refine h4.congrO (fun j=>?_) (fun t=>?_) ?_
  · rw [hrs,Qju]
    by_cases hj:j=i
    · subst hj
      rw [St.root_setR_same]
      simp
    · rw [St.root_setR_ne _ hj]
      show _=(St.putO (sV.back (Qk0 [i] [true] [⟨T,sz,[hid V ks 0 cy]⟩])) _ _).root j
      rw [hrs,Qju]
      simp only [Qk0,Qaf hj,List.lookup_nil,Option.getD_none]
      exact (St.root_setR_ne s hj _).symm
  · cases o.dst <;> rfl
  · cases o.dst <;> rfl
end Go.T
set_option linter.unusedVariables false
namespace Go.T
open Go Go.RowKit Go.Proofs
def Qb0:List Prop→Prop
 | []=>True
 | p :: ps=>p∧Qb0 ps
theorem Qaq : ∀ {ps qs:List Prop},Qb0 (ps++qs)→Qb0 ps∧Qb0 qs
 | [],qs,h=>⟨trivial,h⟩
 | p :: ps,qs,h=>⟨⟨h.1,(Qaq h.2).1⟩,(Qaq h.2).2⟩
inductive H where
 | no
 | br (b:Bool)
 | row (x:List AV)
 | cel (x:List AV) (c:AV)
 | agg (x cs:List AV)
 | sto (x:List AV) (xs':List (List AV))
 | stoS (x:List AV) (xs':List (List AV))
 | callV (zss:List (List (List AV))) (res:AV)
 | callR (zss:List (List (List AV))) (res:AV) (ids:List Nat) (x':AV) (l:List (Nat×Qae))
 | app (id:Nat) (zs:List (List AV))
 | nw (id:Nat) (xs':List (List AV))
 | new (id:Nat)
 | nwc (id:Nat)
 | callS (res:AV) (ids:List Nat) (x':AV) (l:List (Nat×Qae))
 | callO (i T sz:Nat) (ks:List Nat) (cx cy:List AV) (zss:List (List (List AV))) (res x':AV)
 | call (zss:List (List (List AV))) (res:AV) (ids:List Nat)
 | callD (τs:List Nat) (zss:List (List (List AV))) (res:AV) (ids:List Nat)
 | callX (ρ:List Nat) (ks:List Bool) (rs rs':List Qae) (zss:List (List (List AV))) (res:AV) (ids:List Nat) (x':AV) (l:List (Nat×Qae))
 | pack (i j e c:Nat) (x:List AV) (xs':List (List AV))
 | unpack (i j e c:Nat) (x:List AV) (T sz:Nat) (ys xs':List (List AV))
 | nil (t id T sz:Nat)
 | fgt (i e o:Nat) (x:List AV) (xs':List (List AV))
 | bin (r:AV)
 | cnv (r:AV)
 | xt (r:AV)
 | own0 (id n:Nat) (pre post:List AV) (T sz:Nat) (xs':List (List AV))
 | eqr (id:Nat) (xs':List (List AV))
 | own1 (id n:Nat) (T sz:Nat) (xs':List (List AV))
 | slen (t n:Nat)
 | api
 | sl3
 | slB
 | clr (xs':List (List AV))
 | shr (id:Nat) (zs:List (List AV))
 | bts (l:List Int)
structure Hn where
 k:Nat
 h:H:=.no
 o:Option AV:=none
def Xjj:Nat→Nat→Nat
 | 0,x=>x
 | o,x=>o+x
theorem Quh : ∀ o x,Xjj o x=o+x
 | 0,x=>by simp [Xjj]
 | o+1,x=>rfl
def Xlc:Nat→Nat→Nat
 | i,1=>i
 | i,s=>i * s
theorem Qyi : ∀ i s,Xlc i s=i * s
 | i,0=>rfl
 | i,1=>by simp [Xlc]
 | i,s+2=>rfl
def Xf0:Nat→Nat→Nat
 | x,0=>x
 | x,o=>x - o
theorem Qyj : ∀ x o,Xf0 x o=x - o
 | x,0=>rfl
 | x,o+1=>rfl
def binC (op:BinOp) (x y:Value) : Option (Value×List Prop):=
 match op,x,y with
 | .quo,.int k a,.int k' b=>if k=k' then some (.int k (k.wrap (a.tdiv b)),[b≠0]) else none
 | .rem,.int k a,.int k' b=>if k=k' then some (.int k (a.tmod b),[b≠0]) else none
 | .shl,.int k a,.int _ b=>some (.int k (k.wrap (a * 2 ^ (min b.toNat k.bits))),[¬ b<0])
 | .shr,.int k a,.int _ b=>some (.int k (a.fdiv (2 ^ (min b.toNat k.bits))),[¬ b<0])
 | .add,.string a,.string b=>some (.string (a++b),[¬ ((a.size+b.size:Nat) : Int) > IntKind.i64.max])
 | op,x,y=>(Qoz op x y).map fun v=>(v,[])
theorem Xbd {op:BinOp} {x y v:Value} {ps:List Prop} (h:binC op x y=some (v,ps)) (hp:Qb0 ps) : Qoz op x y=some v:=by
 unfold binC at h
 split at h
 ·split at h <;> cases h
  rename_i hk
  simp only [Qb0,and_true] at hp
  simp [Qoz,hk,hp]
 ·split at h <;> cases h
  rename_i hk
  simp only [Qb0,and_true] at hp
  simp [Qoz,hk,hp]
 ·cases h
  simp only [Qb0,and_true] at hp
  simp [Qoz,hp]
 ·cases h
  simp only [Qb0,and_true] at hp
  simp [Qoz,hp]
 ·cases h
  simp only [Qb0,and_true] at hp
  unfold Qoz
  simp only []
  rw [if_neg hp]
 ·rw [Option.map_eq_some_iff] at h
  obtain ⟨z,h,e⟩:=h
  cases e
  exact h
def Xbt (s:St) (h:H) : AV→Option (List AV×Nat×List Prop)
 | .ptr id e o=>match s.root id with
  | some R=>match h with
   | .no=>match R.xs[e]? with
    | some x=>some (x,o,[])
    | none=>none
   | .row x=>some (x,o,[R.xs[e]? = some x])
   | .cel x _=>some (x,o,[R.xs[e]? = some x])
   | .agg x _=>some (x,o,[R.xs[e]? = some x])
   | _=>none
  | none=>none
 | .rop cs o=>some (cs,o,[])
 | _=>none
theorem Qjd {s:St} {h:H} {p:AV} {x:List AV} {o:Nat} {ps:List Prop} (he:Xbt s h p=some (x,o,ps)) (hp:Qb0 ps) : Qwy s p=some (x,o):=by
 unfold Xbt at he
 split at he
 ·split at he
  case h_2=>cases he
  rename_i R hR
  simp only [Qwy,hR]
  split at he
  ·split at he
   ·rename_i x' hx;cases he;simp [hx]
   ·cases he
  all_goals first | (cases he;simp only [Qb0,and_true] at hp;simp [hp];done) | cases he
 ·cases he;rfl
 ·cases he
def Xfw (Θ:Tys) (s:St) (t:Nat) (h:H) (p:AV) : Option (AV×List Prop):=
 match Θ.lookup t with
 | none=>none
 | some ti=>match Xbt s h p with
  | none=>none
  | some (x,o,ps) =>
   if Xh4 ti.und then
    match h with
    | .agg _ cs=>some (.agg cs,(o+ti.sz≤x.length) :: ((x.drop o).take ti.sz=cs) :: (cs.all AV.plain=true) :: ps)
    | _=>if o+ti.sz≤x.length then (if ((x.drop o).take ti.sz).all AV.plain then some (.agg ((x.drop o).take ti.sz),ps) else none) else none
   else match h with
    | .cel _ c=>if c.plain then some (c,(x[o]? = some c) :: ps) else none
    | _=>match x[o]? with
     | some c=>if c.plain then some (c,ps) else none
     | none=>none
theorem Qry {Θ:Tys} {s:St} {t:Nat} {h:H} {p r:AV} {ps:List Prop} (he:Xfw Θ s t h p=some (r,ps)) (hp:Qb0 ps) : Qs5 Θ s t p=some r:=by
 unfold Xfw at he
 split at he
 ·cases he
 rename_i ti hti
 split at he
 ·cases he
 rename_i x o qs hpl
 unfold Qs5
 simp only [hti]
 split at he
 ·rename_i hagg
  split at he
  ·cases he
   obtain ⟨h1,h2,h3,h4⟩:=hp
   simp only [Qjd hpl h4]
   rw [if_pos hagg,if_pos h1,h2,if_pos h3]
  ·split at he
   case isFalse=>cases he
   rename_i h1
   split at he
   case isFalse=>cases he
   rename_i h2
   cases he
   simp only [Qjd hpl hp]
   rw [if_pos hagg,if_pos h1,if_pos h2]
 ·rename_i hagg
  split at he
  ·split at he
   case isFalse=>cases he
   rename_i h1
   cases he
   obtain ⟨h2,h4⟩:=hp
   simp only [Qjd hpl h4]
   rw [if_neg hagg,h2]
   simp only []
   rw [if_pos h1]
  ·split at he
   case h_2=>cases he
   rename_i c hc
   split at he
   case isFalse=>cases he
   rename_i h1
   cases he
   simp only [Qjd hpl hp]
   rw [if_neg hagg,hc]
   simp only []
   rw [if_pos h1]
def idxC (Θ:Tys) (s:St) (t:Nat) (h:H) (x i:AV) : Option (AV×List Prop):=
  match i with
  | .lit (.int k i) =>
    match Θ.lookup t with
    | some ⟨_,_,.slice el,_⟩ =>
      match Θ.lookup el,x with
      | some te,.sl id off len=>match s.root id with
        | some R=>if R.sz=te.sz then some (.ptr id (Xjj off i.toNat) 0,[0≤i,i<(len:Int)]) else none
        | none=>none
      | some te,.ro sz xs=>if sz=te.sz then (match h with
        | .row y=>some (.rop y 0,[0≤i,xs[i.toNat]? = some y])
        | _=>none) else none
      | _,_=>none
    | some ⟨_,_,.array n el,_⟩ =>
      match Θ.lookup el with
      | some te=>match x with
        | .ptr id e o=>if (s.root id).isSome then some (.ptr id e (Xjj o (Xlc i.toNat te.sz)),[0≤i,i<(n:Int)]) else none
        | .rop cs o=>some (.rop cs (Xjj o (Xlc i.toNat te.sz)),[0≤i,i<(n:Int)])
        | _=>none
      | none=>none
    | _=>none
  | _=>none
theorem Xbk {Θ:Tys} {s:St} {t:Nat} {h:H} {x i r:AV} {ps:List Prop} (he:idxC Θ s t h x i=some (r,ps)) (hp:Qb0 ps) : Xdw Θ s t x i=some r:=by
 unfold idxC at he
 split at he
 case h_2=>cases he
 rename_i k i
 unfold Xdw
 split at he
 ·rename_i sz by_ el ze hti
  simp only [hti]
  split at he
  ·rename_i te id off len hte
   simp only [hte]
   split at he
   case h_2=>cases he
   rename_i R hR
   simp only [hR]
   split at he
   case isFalse=>cases he
   rename_i hsz
   cases he
   obtain ⟨h1,h2,_⟩:=hp
   rw [if_pos hsz,if_pos h1,if_pos h2,Quh]
  ·rename_i te sz' xs hte
   simp only [hte]
   split at he
   case isFalse=>cases he
   rename_i hsz
   split at he
   case h_2=>cases he
   cases he
   obtain ⟨h1,h2,_⟩:=hp
   rw [if_pos hsz,if_pos h1,h2]
  ·cases he
 ·rename_i sz by_ n el ze hti
  simp only [hti]
  split at he
  case h_2=>cases he
  rename_i te hte
  simp only [hte]
  split at he
  ·rename_i id e o
   split at he
   case isFalse=>cases he
   rename_i hs
   cases he
   obtain ⟨h1,h2,_⟩:=hp
   rw [if_pos h1,if_pos h2,Quh,Qyi]
   simp only []
   rw [if_pos hs]
  ·cases he
   obtain ⟨h1,h2,_⟩:=hp
   rw [if_pos h1,if_pos h2,Quh,Qyi]
  ·cases he
 ·cases he
def Xfd (Θ:Tys) (t:Nat) (h:H) (cs:List AV) (off:Nat) : Option (AV×List Prop):=
  match Θ.lookup t with
  | some ti=>if Xh4 ti.und then (match h with
      | .agg _ ds=>some (.agg ds,[(cs.drop off).take ti.sz=ds,ds.all AV.plain=true])
      | _=>if ((cs.drop off).take ti.sz).all AV.plain then some (.agg ((cs.drop off).take ti.sz),[]) else none)
    else match h with
      | .cel _ c=>if c.plain then some (c,[cs[off]? = some c]) else none
      | _=>match cs[off]? with
        | some c=>if c.plain then some (c,[]) else none
        | none=>none
  | none=>none
theorem Qs4 {Θ:Tys} {t:Nat} {h:H} {cs:List AV} {off:Nat} {r:AV} {ps:List Prop} (he:Xfd Θ t h cs off=some (r,ps)) (hp:Qb0 ps) : Qtf Θ t cs off=some r:=by
 unfold Xfd at he
 split at he
 case h_2=>cases he
 rename_i ti hti
 unfold Qtf
 simp only [hti]
 split at he
 ·rename_i hagg
  rw [if_pos hagg]
  split at he
  ·cases he
   obtain ⟨h1,h2,_⟩:=hp
   rw [h1,if_pos h2]
  ·split at he
   case isFalse=>cases he
   rename_i h1
   cases he
   rw [if_pos h1]
 ·rename_i hagg
  rw [if_neg hagg]
  split at he
  ·split at he
   case isFalse=>cases he
   rename_i h1
   cases he
   obtain ⟨h2,_⟩:=hp
   rw [h2]
   simp only []
   rw [if_pos h1]
  ·split at he
   case h_2=>cases he
   rename_i c hc
   split at he
   case isFalse=>cases he
   rename_i h1
   cases he
   rw [hc]
   simp only []
   rw [if_pos h1]
def Xec (Θ:Tys) (t:Nat) (h:H) (x:AV) (f:Nat) : Option (AV×List Prop):=
 match x with
 | .agg cs=>match Θ.lookup t with
  | some ⟨_,_,.struct fs,_⟩=>match fs[f]? with
   | some fd=>Xfd Θ fd.type h cs fd.offset
   | none=>none
  | _=>none
 | _=>none
theorem Qwn {Θ:Tys} {t:Nat} {h:H} {x:AV} {f:Nat} {r:AV} {ps:List Prop} (he:Xec Θ t h x f=some (r,ps)) (hp:Qb0 ps) : Qsi Θ t x f=some r:=by
 unfold Xec at he
 split at he
 case h_2=>cases he
 split at he
 case h_2=>cases he
 rename_i hti
 split at he
 case h_2=>cases he
 rename_i fd hfd
 simp only [Qsi,hti,hfd]
 exact Qs4 he hp
def Xdv (Θ:Tys) (t:Nat) (h:H) (x i:AV) : Option (AV×List Prop):=
 match x,i,Θ.lookup t with
 | .lit (.string s),.lit (.int k i),some ⟨_,_,.string,_⟩=>match h with
  | .cel _ (.lit (.int .u8 b))=>some (.lit (.int .u8 b),[0≤i,(s[i.toNat]?).map (fun u=>((u.toNat:Nat) : Int))=some b])
  | _=>none
 | .agg cs,.lit (.int k i),some ⟨_,_,.array n el,_⟩=>match Θ.lookup el with
  | some te=>match Xfd Θ el h cs (Xlc i.toNat te.sz) with
   | some (r,ps)=>some (r,(0≤i) :: (i<(n:Int)) :: ps)
   | none=>none
  | none=>none
 | _,_,_=>none
theorem Qxf {Θ:Tys} {t:Nat} {h:H} {x i:AV} {r:AV} {ps:List Prop} (he:Xdv Θ t h x i=some (r,ps)) (hp:Qb0 ps) : Qpq Θ t x i=some r:=by
 unfold Xdv at he
 split at he
 ·rename_i hti
  split at he
  case h_2=>cases he
  cases he
  obtain ⟨h1,h2,_⟩:=hp
  rw [Option.map_eq_some_iff] at h2
  obtain ⟨u,hu,rfl⟩:=h2
  simp only [Qpq,hti]
  rw [if_pos h1,hu]
 ·rename_i hti
  split at he
  case h_2=>cases he
  rename_i te hte
  split at he
  case h_2=>cases he
  rename_i r' qs hr
  cases he
  obtain ⟨h1,h2,h3⟩:=hp
  simp only [Qpq,hti,hte]
  rw [if_pos h1,if_pos h2]
  rw [Qyi] at hr
  exact Qs4 hr h3
 ·cases he
def Xen (Θ:Tys) (s:St) (t:Nat) (x:AV) (lo hi:Option AV) : Option (AV×List Prop):=
  match Θ.lookup t with
  | some ⟨_,_,.slice el,_⟩=>match Θ.lookup el with
    | none=>none
    | some te=>match x with
      | .sl id off len=>match s.root id with
        | some R=>if R.sz=te.sz then (match bnd 0 lo,bnd len hi with
          | some l,some h=>some (.sl id (Xjj off l.toNat) (Xf0 h.toNat l.toNat),[0≤l,l≤h,h≤(len:Int)])
          | _,_=>none) else none
        | none=>none
      | .ro sz xs=>if sz=te.sz then (match bnd 0 lo,bnd xs.length hi with
          | some l,some h=>some (.ro sz ((xs.drop l.toNat).take (Xf0 h.toNat l.toNat)),[0≤l,l≤h,h≤(xs.length:Int)])
          | _,_=>none) else none
      | _=>none
  | some ⟨_,_,.string,_⟩=>match x with
    | .lit (.string z)=>match bnd 0 lo,bnd z.size hi with
      | some l,some h=>some (.lit (.string (z.extract l.toNat h.toNat)),[0≤l,l≤h,h≤(z.size:Int)])
      | _,_=>none
    | _=>none
  | _=>none
theorem Qwk {Θ:Tys} {s:St} {t:Nat} {x:AV} {lo hi:Option AV} {r:AV} {ps:List Prop} (he:Xen Θ s t x lo hi=some (r,ps)) (hp:Qb0 ps) : Qrl Θ s t x lo hi=some r:=by
 unfold Xen at he
 unfold Qrl
 split at he
 ·rename_i hti
  simp only [hti]
  split at he
  ·cases he
  rename_i te hte
  simp only [hte]
  split at he
  ·split at he
   case h_2=>cases he
   rename_i R hR
   simp only [hR]
   split at he
   case isFalse=>cases he
   rename_i hsz
   rw [if_pos hsz]
   split at he
   case h_2=>cases he
   rename_i l h hl hh
   cases he
   obtain ⟨h1,h2,h3,_⟩:=hp
   simp only [hl,hh]
   rw [if_pos h1,if_pos h2,if_pos h3,Quh,Qyj]
  ·split at he
   case isFalse=>cases he
   rename_i hsz
   simp only []
   rw [if_pos hsz]
   split at he
   case h_2=>cases he
   rename_i l h hl hh
   cases he
   obtain ⟨h1,h2,h3,_⟩:=hp
   simp only [hl,hh]
   rw [if_pos h1,if_pos h2,if_pos h3,Qyj]
  ·cases he
 ·rename_i hti
  simp only [hti]
  split at he
  case h_2=>cases he
  split at he
  case h_2=>cases he
  rename_i l h hl hh
  cases he
  obtain ⟨h1,h2,h3,_⟩:=hp
  simp only [hl,hh]
  rw [if_pos h1,if_pos h2,if_pos h3]
 ·cases he
def vx (Θ:Tys) (s:St) (op:Op) (h:H) : Option (AV×List Prop):=
 match op with
 | .binOp op t x y _=>match Qal s x,Qal s y with
  | .lit (.bool u),.lit (.bool v)=>match op,Θ.lookup t with
   | .eql,some ⟨_,_,.bool,_⟩=>some (.lit (.bool (u == v)),[])
   | .neq,some ⟨_,_,.bool,_⟩=>some (.lit (.bool (!(u == v))),[])
   | _,_=>none
  | .lit u,.lit v=>(binC op u v).map fun p=>(.lit p.1,p.2)
  | _,_=>none
 | .load t p=>Xfw Θ s t h (Qal s p)
 | .field t x f=>Xec Θ t h (Qal s x) f
 | .indexAddr t x i=>idxC Θ s t h (Qal s x) (Qal s i)
 | .index t x i=>Xdv Θ t h (Qal s x) (Qal s i)
 | .slice t x lo hi none=>Xen Θ s t (Qal s x) (lo.map (Qal s)) (hi.map (Qal s))
 | op=>(Qsr Θ s op).map fun r=>(r,[])
theorem Qzm {Θ:Tys} {s:St} {op:Op} {h:H} {r:AV} {ps:List Prop} (he:vx Θ s op h=some (r,ps)) (hp:Qb0 ps) : Qsr Θ s op=some r:=by
 unfold vx at he
 split at he
 ·split at he
  ·rename_i hu hv
   simp only [Qsr,hu,hv]
   split at he
   ·rename_i hti;cases he;simp only [hti]
   ·rename_i hti;cases he;simp only [hti]
   ·cases he
  ·rename_i u v hn hu hv
   rw [Option.map_eq_some_iff] at he
   obtain ⟨⟨z,qs⟩,he,e⟩:=he
   cases e
   simp only [Qsr,hu,hv]
   rw [Xbd he hp];rfl
  ·cases he
 ·exact Qry he hp
 ·exact Qwn he hp
 ·exact Xbk he hp
 ·exact Qxf he hp
 ·exact Qwk he hp
 ·rw [Option.map_eq_some_iff] at he
  obtain ⟨z,he,e⟩:=he
  cases e
  exact he
end Go.T
set_option linter.unusedVariables false
namespace Go.T
open Go Go.RowKit Go.Proofs
def exN (Θ:Tys) (s:St) (o:Oper) : H→Option (St×List Prop)
 | .api=>none
 | .sl3=>none
 | .slB=>none
 | .clr _=>none
 | .shr id zs=>match o.op with
  | .slice t x none (some y) none=>match Θ.lookup t,Qal s x,Qal s y with
   | some ⟨_,_,.slice el,_⟩,.sl k 0 len,.lit (.int _ hh)=>match Θ.lookup el,s.root k with
    | some te,some R=>if s.us.contains id then none else some (((s.kill k).add id ⟨R.T,R.sz,zs⟩).putO o.dst (.sl id 0 zs.length),[0≤hh,hh≤((R.xs.length:Nat) : Int),R.xs.take hh.toNat=zs,len=R.xs.length])
    | _,_=>none
   | _,_,_=>none
  | _=>none
 | _=>none
theorem Qla {E:Env} {Θ:Tys} (hΘ:TOK E.P Θ) {s s':St} {o:Oper} (hd:okD E.n o.dst=true) {h:H} {ps:List Prop} (he:exN Θ s o h=some (s',ps)) (hp:Qb0 ps) : Qm5 E o s s':=by
 unfold exN at he
 split at he
 ·cases he
 ·cases he
 ·cases he
 ·cases he
 ·rename_i id zs
  split at he
  case h_2=>cases he
  rename_i t x y hop
  split at he
  case h_2=>cases he
  rename_i el ze k len kk hh hti hx hhi
  split at he
  case h_2=>cases he
  rename_i te R hte hR
  split at he
  case isTrue=>cases he
  rename_i hid
  cases he
  obtain ⟨p1,p2,p3,p4,_⟩:=hp
  have:=Xf8 hΘ hop hd hti rfl hte hx hR hhi p1 p2 p4 (id:=id) (by simpa using hid)
  rw [p3] at this
  have e:hh.toNat=zs.length:=by rw [← p3,List.length_take];omega
  rw [e] at this
  exact this
 ·cases he
section
variable {T:Type} {o:T→List AV} {t:List T} {i j:Int}
end
end Go.T
set_option linter.unusedVariables false
namespace Go.T
open Go Go.RowKit
variable {E:Env} {s:St} {a:Act} {w:World} {χ:Nat→Option Nat} {hd:Nat→Value}
mutual
theorem Xaw {τ:List (Nat×Qae)} (hτ:tOK s τ) (h:Qci E s a w χ hd) : ∀ (x:AV) (z z':List (List (List AV))) (y:AV) (ps:List Prop) (u:Value) (f:List Nat),Xbo s τ x z=some (y,ps,z')→Qb0 ps→repR w (Qbg χ w) (· ∈ s.us) (tab s hd) x u f→rep w (fun b=>b<w.heap.size) y u []
 | .lit v,z,z',y,ps,u,f,he,hp,hr=>by
  simp only [Xbo] at he;cases he
  exact Qk6 h (.lit v) _ u f hr (by simp [Xir,out])
 | .ro sz xs,z,z',y,ps,u,f,he,hp,hr=>by
  simp only [Xbo] at he;cases he
  exact Qk6 h (.ro sz xs) _ u f hr (by simp [Xir,out])
 | .rop cs o,z,z',y,ps,u,f,he,hp,hr=>by
  simp only [Xbo] at he;cases he
  exact Qk6 h (.rop cs o) _ u f hr (by simp [Xir,out])
 | .sl i off len,z,z',y,ps,u,f,he,hp,hr=>by
  simp only [Xbo] at he
  split at he
  case h_2=>cases he
  rename_i zs z1
  split at he
  case h_2=>cases he
  rename_i R hR
  cases he
  obtain ⟨h1,_⟩:=hp
  exact Qk6 h (.sl i off len) _ u f hr (by simp only [Xir,hR,Qzl hτ h1])
 | .ptr i e o,z,z',y,ps,u,f,he,hp,hr=>by
  simp only [Xbo] at he
  split at he
  case h_2=>cases he
  rename_i x x' z1
  split at he
  case h_2=>cases he
  rename_i R hR
  cases he
  obtain ⟨h1,h2,_⟩:=hp
  exact Qk6 h (.ptr i e o) _ u f hr (by simp only [Xir,hR,h1,Qyd hτ h2])
 | .agg cs,z,z',y,ps,u,f,he,hp,hr=>by
  simp only [Xbo] at he
  split at he
  case h_2=>cases he
  rename_i ds qs z1 h1
  cases he
  simp only [repR] at hr
  obtain ⟨vs,rfl,hr⟩:=hr
  simp only [rep]
  exact ⟨vs,rfl,Qkd hτ h cs z _ ds ps vs f h1 hp hr⟩
 | .fn g cs,z,z',y,ps,u,f,he,hp,hr=>by
  simp only [Xbo] at he
  split at he
  case h_2=>cases he
  rename_i ds qs z1 h1
  cases he
  simp only [repR] at hr
  obtain ⟨vs,rfl,hr⟩:=hr
  simp only [rep]
  exact ⟨vs,rfl,Qkd hτ h cs z _ ds ps vs f h1 hp hr⟩
 | .dead,z,z',y,ps,u,f,he,hp,hr=>by simp [Xbo] at he
 | .own _ _ _,z,z',y,ps,u,f,he,hp,hr=>by simp [Xbo] at he
 | .tup _,z,z',y,ps,u,f,he,hp,hr=>by simp [Xbo] at he
theorem Qkd {τ:List (Nat×Qae)} (hτ:tOK s τ) (h:Qci E s a w χ hd) : ∀ (xs:List AV) (z z':List (List (List AV))) (ys:List AV) (ps:List Prop) (us:List Value) (f:List Nat),Qz5 s τ xs z=some (ys,ps,z')→Qb0 ps→Qah w (Qbg χ w) (· ∈ s.us) (tab s hd) xs us f→Qfm w (fun b=>b<w.heap.size) ys us []
 | [],z,z',ys,ps,us,f,he,hp,hr=>by
  simp only [Qz5] at he;cases he
  simp only [Qah] at hr;simp only [Qfm];exact ⟨hr.1,trivial⟩
 | c :: cs,z,z',ys,ps,us,f,he,hp,hr=>by
  simp only [Qz5] at he
  split at he
  case h_2=>cases he
  rename_i d qs z1 h1
  split at he
  case h_2=>cases he
  rename_i ds rs z2 h2
  cases he
  obtain ⟨p1,p2⟩:=Qaq hp
  simp only [Qah] at hr
  obtain ⟨u,us',f1,f2,rfl,rfl,k1,k2⟩:=hr
  simp only [Qfm]
  exact ⟨u,us',[],[],rfl,rfl,Xaw hτ h c z _ d qs u f1 h1 p1 k1,Qkd hτ h cs _ _ ds rs us' f2 h2 p2 k2⟩
end
def Xf6 (s:St) (ids:List Nat) : List (Nat×Qae):=ids.filterMap fun i=>(s.root i).map fun R=>(i,R)
theorem Xa4 (s:St) : ∀ ids:List Nat,tOK s (Xf6 s ids)
 | []=>fun i R h=>by simp [Xf6] at h
 | k :: ids=>fun i R h=>by
  have ih:=Xa4 s ids
  unfold Xf6 at h ih
  rw [List.filterMap_cons] at h
  cases hk:s.root k with
  | none=>rw [hk] at h;exact ih i R h
  | some Q =>
   rw [hk] at h
   simp only [Option.map_some] at h
   by_cases e:i=k
   ·subst e
    rw [Qan] at h
    cases h;exact hk
   ·rw [Qaf e] at h
    exact ih i R h
end Go.T
