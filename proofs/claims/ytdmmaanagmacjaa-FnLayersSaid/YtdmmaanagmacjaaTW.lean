/- Lemmas for FnLayers; no condition. -/

import Derived.Test.YtdmmaanagmacjaaTO
import Derived.Deep.Slices
import Derived.DataReads
import Derived.Laws.Cover2
import Derived.Test.YtdmmaanagmacjaaTK
import Derived.Laws.CopyRow
set_option linter.unusedVariables false
namespace Go.T
open Go Go.RowKit Go.Proofs
def Qm0 (ρ:List Nat) (ks:List Bool) : List (Nat×Nat):=(ρ.zipIdx.map fun p=>(p.2,p.1)).filter fun p=>ks[p.1]? == some true
theorem Qzk {ρ:List Nat} {ks:List Bool} {i j:Nat} (h:(Qm0 ρ ks).lookup i=some j) : ρ[i]? = some j∧ks[i]? = some true:=by
 have hm:=Qb6 h
 simp only [Qm0,List.mem_filter,List.mem_map] at hm
 obtain ⟨⟨p,hp,e⟩,hk⟩:=hm
 cases e
 exact ⟨List.mem_zipIdx_iff_getElem?.1 hp,by simpa using hk⟩
theorem Xl7 (l:List Nat) : ∃ κ:Nat,κ ∉ l:=by
 have : ∃ κ:Nat,∀ x∈l,x<κ:=by
  induction l with
  | nil=>exact ⟨0,by simp⟩
  | cons y l ih =>
   obtain ⟨κ,hκ⟩:=ih
   refine ⟨max κ (y+1),?_⟩
   intro x hx
   rcases List.mem_cons.1 hx with rfl | hx
   ·omega
   ·have:=hκ x hx;omega
 obtain ⟨κ,hκ⟩:=this
 exact ⟨κ,fun hm=>by have:=hκ κ hm;omega⟩
open Classical in
theorem Qpy {E:Env} {o:Oper} {s:St} {x:Operand} {f:FuncId} {caps:List AV} {args:Array Operand} {tys:Array TypeId} (ho:o.op = .call ⟨.value x,args,tys⟩) (hx:Qal s x = .fn f caps) (hd:okD E.n o.dst=true)
    {ρ:List Nat} {ks:List Bool} {rs rs':List Qae} {outs:List AV} {res:AV} (hn : ρ.Nodup) (hrt:Qqg s ρ rs) (ht : ∀ R∈rs,Qa1 R.xs=true∧Qa4 R.xs=true) (hkl:ks.length=ρ.length) (hsB:Qpv rs rs'=true) (hsL:Xbb rs rs')
    (hout:Qii s ρ.zipIdx (args.toList.map (Qal s)++caps)=some outs) (hm:Qaw E.pk f rs outs ks rs' res)
    (ids:List Nat) (hin:ids.Nodup) (hids : ∀ i∈ids,i ∉ s.us) :
    Qm5 E o s (((s.back (Qk0 ρ ks rs')).addL (rtf (Qe3 (Qm0 ρ ks) res) ids).2.1).putO o.dst (rtf (Qe3 (Qm0 ρ ks) res) ids).1):=by
  rintro a w ⟨χ,hd',h⟩ K Q hk
  obtain ⟨dst,op,type,pos,after,guard⟩:=o
  simp only at ho hd hk
  subst ho
  obtain ⟨hent,hm⟩:=hm
  obtain ⟨hlen,hat⟩:=Qxe hrt
  have hlen':=Qxv hsB
  -- what the roots are
  have hJ:JJ ∉ ρ:=by
    intro hj
    obtain ⟨k,hk⟩:=List.mem_iff_getElem?.1 hj
    obtain ⟨R,_,hR⟩:=hat k JJ hk
    rw [h.rj] at hR;cases hR
  have hfp : ∀ i:Nat,∃ fp:List Nat,∀ (id:Nat),ρ[i]? = some id→∀ R,s.root id=some R→Qjt w (Qbg χ w) (· ∈ s.us) (tab s hd') R (hd' id) fp∧fp.Nodup∧∀ b∈fp,χ b=some id:=by
    intro i
    cases hi : ρ[i]? with
    | none=>exact ⟨[],fun id hid=>by cases hid⟩
    | some id =>
      obtain ⟨R,_,hR⟩:=hat i id hi
      obtain ⟨_,fp,h1,h2,h3⟩:=h.rts id R hR
      refine ⟨fp,?_⟩
      intro id' hid' R' hR'
      cases hid'
      rw [hR] at hR';cases hR'
      exact ⟨h1,h2,h3⟩
  let fp:Nat→List Nat:=fun i=>if ρ[i]? = none then [] else Classical.choose (hfp i)
  have hfp1 : ∀ (i id:Nat),ρ[i]? = some id→∀ R,s.root id=some R→Qjt w (Qbg χ w) (· ∈ s.us) (tab s hd') R (hd' id) (fp i)∧(fp i).Nodup∧∀ b∈fp i,χ b=some id:=by
    intro i id hi R hR
    have:=Classical.choose_spec (hfp i) id hi R hR
    have e:fp i=Classical.choose (hfp i):=by simp only [fp];rw [if_neg (by rw [hi];simp)]
    rw [e];exact this
  have hcol : ∀ (i b:Nat),b∈fp i→∃ id:Nat,ρ[i]? = some id∧χ b=some id:=by
    intro i b hb
    cases hi : ρ[i]? with
    | none=>simp only [fp,hi,if_true] at hb;cases hb
    | some id =>
      obtain ⟨R,_,hR⟩:=hat i id hi
      exact ⟨id,rfl,(hfp1 i id hi R hR).2.2 b hb⟩
  let hdc:Nat→Value:=fun i=>match ρ[i]? with | some id=>hd' id | none=>undef
  have hhdc : ∀ (i id:Nat),ρ[i]? = some id→hdc i=hd' id:=fun i id hi=>by simp only [hdc,hi]
  let S:Nat→Prop:=fun b=>b<w.heap.size∧∀ i,b ∉ fp i
  have hfree : ∀ b,Qbg χ w b→S b:=fun b hb=>⟨hb.2,fun i hm=>by
    obtain ⟨id,_,hc⟩:=hcol i b hm
    rw [hb.1] at hc;cases hc⟩
  have htab : ∀ (i id:Nat),ρ[i]? = some id→hdT rs hdc i=tab s hd' id:=by
    intro i id hi
    obtain ⟨R,h1,h2⟩:=hat i id hi
    simp only [hdT,h1,Option.map_some,hhdc i id hi,tab,h2]
  have hxr:=Qak h x
  rw [hx] at hxr
  simp only [repR] at hxr
  obtain ⟨vs,hxv,hcr⟩:=hxr
  have hargs:=Qka (S2:=S) (U:=fun i=>i<rs.length) (ρ:=hdT rs hdc) h hfree (fun i R b hR hπ hc=>by
      refine ⟨(h.col b i hc).2,fun k hm=>?_⟩
      obtain ⟨id,hid,hc'⟩:=hcol k b hm
      rw [hc] at hc';cases hc'
      rw [(Qkf hn).2 hid] at hπ;cases hπ) (fun i j hj=>by
      have:=(Qkf hn).1 hj
      have:=(List.getElem?_eq_some_iff.1 this).1
      omega) (fun i j hj=>htab j i ((Qkf hn).1 hj)) _ _ _ _ (Qdy (Qi0 h args.toList) hcr) rfl hout
  have hc:=hm w S hdc fp _ (fun i R hR=>by
      have hi : ∃ id:Nat,ρ[i]? = some id:=by
        have:=(List.getElem?_eq_some_iff.1 hR).1
        exact ⟨ρ[i]'(by omega),by simp [show i<ρ.length by omega]⟩
      obtain ⟨id,hid⟩:=hi
      obtain ⟨R',h1,h2⟩:=hat i id hid
      rw [hR] at h1;cases h1
      obtain ⟨⟨hz,vs',fp',ho,hr,he⟩,h4,_⟩:=hfp1 i id hid R h2
      obtain ⟨t1,t2⟩:=ht R (List.mem_of_getElem? hR)
      refine ⟨hz,⟨vs',fp',by rw [hhdc i id hid];exact ho,Qm6 _ _ _ _ (Qey _ _ _ hr t1) t2,by rw [hhdc i id hid];exact he⟩,h4⟩) (fun i hi=>by
      have : ρ[i]? = none:=by
        rw [List.getElem?_eq_none_iff] at hi ⊢; omega
      simp only [fp,this,if_true]) (fun i j b hi hj=>by
      obtain ⟨id,h1,h2⟩:=hcol i b hi
      obtain ⟨id',h3,h4⟩:=hcol j b hj
      rw [h2] at h4;cases h4
      exact Qx6 hn h1 h3) (fun i b hb hS=>hS.2 i hb) (fun b hb=>hb.1) hargs (E.K.mono (fun b hb=>⟨by have:=h.hsz;omega,fun i hi=>by
      obtain ⟨id,h1,h2⟩:=hcol i b hi
      rcases (h.col b id h2).1 (fun e=>hJ (by rw [← e];exact List.mem_of_getElem? h1)) with h3 | h3
      · omega
      · exact hb.2 h3⟩) h.kk)
  have hrun:(execOp a.eval ⟨dst,.call ⟨.value x,args,tys⟩,type,pos,after,guard⟩).run E.P w = .ok (.enter f (args.toList.map a.eval++vs).toArray) w:=by
    have e1:(args.toList.map a.eval++vs).toArray=args.map a.eval++vs.toArray:=by
      rw [← Array.toList_map]
      apply Array.ext'
      simp
    simp only [execOp,resolve,hxv,invoke,Deferred.ofValue,Sem.run_bind,Sem.run_pure,Result.andThen_ok]
    simp only [Array.empty_append]
    rw [e1]
    exact hent _ w
  unfold Oper.wp
  rw [hrun]
  show Calls E.P f _ w _
  refine hc.mono ?_
  rintro e w' ⟨v,fp',g,rfl,hos,htp,hou,hsz,hfr,hrow,hnon,hsub,hres,hgn,hgs,hdj,hfg⟩
  show K _ _
  obtain ⟨κ,hκ⟩:=Xl7 (s.us++ids++[JJ])
  simp only [List.mem_append,List.mem_singleton,not_or] at hκ
  obtain ⟨⟨hκ1,hκ2⟩,hκ3⟩:=hκ
  -- blocks that the call was given stand under the roots' colours
  have hgiven : ∀ b,(∃ i,b∈fp i)→∃ id,id∈ρ∧χ b=some id:=by
    rintro b ⟨i,hi⟩
    obtain ⟨id,h1,h2⟩:=hcol i b hi
    exact ⟨id,List.mem_of_getElem? h1,h2⟩
  let χ1:Nat→Option Nat:=fun b=>if hb : ∃ i,b∈fp' i then ρ[Classical.choose hb]? else if b∈g then some κ else if b<w.heap.size then (if ∃ id,id∈ρ∧χ b=some id then none else χ b) else none
  have hχ1a : ∀ (i b:Nat),b∈fp' i→χ1 b=ρ[i]?:=by
    intro i b hb
    have hex : ∃ i,b∈fp' i:=⟨i,hb⟩
    simp only [χ1]
    rw [dif_pos hex,hdj _ _ b (Classical.choose_spec hex) hb]
  have hχ1b : ∀ b,b∈g→χ1 b=some κ:=by
    intro b hb
    simp only [χ1]
    rw [dif_neg (fun ⟨i,hi⟩=>(hfg i b hi).1 hb),if_pos hb]
  have hold : ∀ b,b<w.heap.size→(¬ ∃ id,id∈ρ∧χ b=some id)→χ1 b=χ b∧b ∉ g∧w'.heap[b]? = w.heap[b]?:=by
    intro b hb hne
    have h1 : ¬ ∃ i,b∈fp' i:=by
      rintro ⟨i,hi⟩
      rcases hsub i b hi with h2 | h2
      · exact hne (hgiven b h2)
      · omega
    have h2:b ∉ g:=by
      intro hg
      rcases (hgs b hg).1 with h2 | h2
      · exact hne (hgiven b h2)
      · omega
    refine ⟨?_,h2,hfr b hb (fun i hi=>hne (hgiven b ⟨i,hi⟩))⟩
    simp only [χ1]
    rw [dif_neg h1,if_neg h2,if_pos hb,if_neg hne]
  have hS : ∀ b,Qbg χ w b→Qbg χ1 w' b:=by
    intro b hb
    have:=hold b hb.2 (by rintro ⟨id,_,hc⟩;rw [hb.1] at hc;cases hc)
    exact ⟨by rw [this.1];exact hb.1,by have:=hb.2;omega⟩
  have hSh : ∀ b,Qbg χ w b→w'.heap[b]? = w.heap[b]?:=fun b hb=>(hold b hb.2 (by rintro ⟨id,_,hc⟩;rw [hb.1] at hc;cases hc)).2.2
  let s1:=s.back (Qk0 ρ ks rs')
  have hr1 : ∀ i,i ∉ ρ→s1.root i=s.root i:=by
    intro i hi
    simp only [s1,Qju,Qwl hi,Option.getD_none]
  have hr2 : ∀ (k i:Nat),ρ[k]? = some i→∃ R',rs'[k]? = some R'∧∃ b,ks[k]? = some b∧s1.root i=if b then some R' else none:=by
    intro k i hki
    obtain ⟨R',b,e1,e2,e3⟩:=Xe7 (ks:=ks) (rs:=rs') hn hkl (by omega) hki
    refine ⟨R',e1,b,e2,?_⟩
    simp only [s1,Qju,e3,Option.getD_some]
  have htab1 : ∀ i,i∈s.us→∀ y,tab s1 hd' i=some y→tab s hd' i=some y:=by
    intro i _ y hy
    by_cases hi:i∈ρ
    · obtain ⟨k,hk⟩:=List.mem_iff_getElem?.1 hi
      obtain ⟨R',e1,b,e2,e3⟩:=hr2 k i hk
      obtain ⟨R,e4,e5⟩:=hat k i hk
      simp only [tab,e3] at hy
      cases b
      · simp at hy
      · simp only [if_true,Option.map_some] at hy
        simp only [tab,e5,Option.map_some]
        rw [← hy,Qzo hsL e4 e1,(Qvl hsB e4 e1).2]
    · simp only [tab,hr1 i hi] at hy;exact hy
  have hrel:Qci E s1 a w' χ1 hd':=by
    refine ⟨h.defers,h.size,hos.trans h.os,h.tape.trans htp,hou.trans h.output,by have:=h.hsz;omega,?_,h.fx,h.jj,?_,?_,?_,?_,?_⟩
    · intro k hk1 hk2
      rw [hfr k (by have:=h.hsz;omega) ?_,h.frame k hk1 hk2]
      intro i hi
      obtain ⟨id,h1,h2⟩:=hcol i k hi
      rcases (h.col k id h2).1 (fun e=>hJ (e ▸ List.mem_of_getElem? h1)) with h3 | h3
      · omega
      · exact hk2 h3
    · rw [hr1 JJ hJ];exact h.rj
    · intro b hb
      have h1:=h.jk b hb
      rw [(hold b (h.col b _ h1).2 (by rintro ⟨id,hid,hc⟩;rw [h1] at hc;cases hc;exact hJ hid)).1]
      exact h1
    · intro b r hb
      by_cases h1 : ∃ i,b∈fp' i
      · obtain ⟨i,hi⟩:=h1
        rw [hχ1a i b hi] at hb
        refine ⟨fun _=>?_,(hfg i b hi).2⟩
        rcases hsub i b hi with h2 | h2
        · obtain ⟨id,hid,hc⟩:=hgiven b h2
          exact (h.col b id hc).1 (fun e=>hJ (e ▸ hid))
        · left;have:=h.hsz;omega
      · by_cases h2:b∈g
        · refine ⟨fun _=>?_,(hgs b h2).2⟩
          rcases (hgs b h2).1 with h3 | h3
          · obtain ⟨id,hid,hc⟩:=hgiven b h3
            exact (h.col b id hc).1 (fun e=>hJ (e ▸ hid))
          · left;have:=h.hsz;omega
        · simp only [χ1] at hb
          rw [dif_neg h1,if_neg h2] at hb
          split at hb
          · split at hb
            · cases hb
            · have:=h.col b r hb
              exact ⟨this.1,by omega⟩
          · cases hb
    · intro i R hR
      by_cases hi:i∈ρ
      · obtain ⟨k,hk⟩:=List.mem_iff_getElem?.1 hi
        obtain ⟨R',e1,b,e2,e3⟩:=hr2 k i hk
        obtain ⟨R0,e4,e5⟩:=hat k i hk
        rw [e3] at hR
        cases b
        · simp at hR
        · simp only [if_true,Option.some.injEq] at hR
          subst hR
          obtain ⟨⟨vs2,fp2,ho2,hr2',he2⟩,hn2⟩:=hrow k R' e1 e2
          rw [hhdc k i hk] at ho2 he2
          refine ⟨(h.rts i R0 e5).1,fp' k,⟨by rw [(Qvl hsB e4 e1).2];exact (hfp1 k i hk R0 e5).1.1,vs2,fp2,ho2,Qi1 _ _ _ (Qex _ _ _ _ hr2' (fun b hb=>hb.elim) (fun b hb=>hb.elim) (fun _ _=>rfl)),he2⟩,hn2,?_⟩
          intro b hb
          rw [hχ1a k b hb];exact hk
      · rw [hr1 i hi] at hR
        obtain ⟨hu,f0,hr,hn0,hc0⟩:=h.rts i R hR
        have hne : ∀ b∈f0,¬ ∃ id,id∈ρ∧χ b=some id:=by
          rintro b hb ⟨id,hid,hc⟩
          rw [hc0 b hb] at hc;cases hc;exact hi hid
        refine ⟨hu,f0,hr.mono hS hSh (fun b hb=>(hold b (hr.lt b hb) (hne b hb)).2.2) (fun _ y=>y) htab1,hn0,?_⟩
        intro b hb
        rw [(hold b (hr.lt b hb) (hne b hb)).1];exact hc0 b hb
    · intro t
      exact Qcd _ _ _ (h.slots t) hS hSh (by simp) (fun _ y=>y) htab1
  have hres1:repR w' (Qbg χ1 w') (· ∈ s1.us) (tab s1 hd') (Qe3 (Qm0 ρ ks) res) v g:=by
    refine Qpl (S:=NS) (fun b hb=>hb.elim) (fun i j hij=>?_) (fun i j hij=>?_) _ _ _ hres
    · obtain ⟨h1,_⟩:=Qzk hij
      obtain ⟨R,_,hR⟩:=hat i j h1
      exact (h.rts j R hR).1
    · obtain ⟨h1,h2⟩:=Qzk hij
      obtain ⟨R',e1,b,e2,e3⟩:=hr2 i j h1
      rw [h2] at e2;cases e2
      simp only [tab,e3,if_true,Option.map_some,hdT,e1,hhdc i j h1]
  obtain ⟨χ2,hd2,n2,r2,_,_,_⟩:=Qtp (κ:=κ) (Qe3 (Qm0 ρ ks) res) v g ids s1 χ1 hd' hrel hres1 hgn hχ1b (fun b hb=>by
      rcases (hgs b hb).1 with h3 | h3
      · obtain ⟨id,hid,hc⟩:=hgiven b h3
        exact (h.col b id hc).1 (fun e=>hJ (e ▸ hid))
      · left;have:=h.hsz;omega) (fun b hb hj=>by
      have h1:=hrel.jk b hj
      rw [hχ1b b hb] at h1;cases h1;exact hκ3 rfl) (fun R i hR e=>by
      subst e
      exact hκ1 (hrel.rts i R hR).1) hin (fun i hi=>⟨hids i hi,fun e=>hκ2 (e ▸ hi)⟩)
  exact hk _ _ ⟨χ2,hd2,n2.rel.putO hd r2⟩
end Go.T
set_option linter.unusedVariables false
namespace Go.T
open Go Go.RowKit Go.Proofs
theorem At.app {w:World} {b o:Nat} {xs ys:List Value} (h1:At w b o xs) (h2:At w b (o+xs.length) ys) : At w b o (xs++ys):=by
 intro k v hk
 rw [List.getElem?_append] at hk
 split at hk
 ·exact h1 k v hk
 ·have:=h2 (k - xs.length) v hk
  rwa [show o+xs.length+(k - xs.length)=o+k by omega] at this
theorem Xeo {w:World} {b sz:Nat} : ∀ (rows:List (List Value)) (o:Nat),(∀ r∈rows,r.length=sz)→(∀ i r,rows[i]? = some r→At w b (o+i * sz) r)→At w b o rows.flatten
 | [],o,_,_=>by intro k v hk;simp at hk
 | r :: rows,o,hl,h=>by
  rw [List.flatten_cons]
  have h0:=h 0 r rfl
  rw [Nat.zero_mul,Nat.add_zero] at h0
  refine At.app h0 (Xeo rows _ (fun r' hr=>hl r' (List.mem_cons_of_mem _ hr)) (fun i r' hr=>?_))
  have:=h (i+1) r' (by simpa using hr)
  rw [hl r List.mem_cons_self]
  rwa [Nat.add_mul,Nat.one_mul,Nat.add_comm (i * sz) sz,← Nat.add_assoc] at this
theorem Qxw {w:World} {S:Nat→Prop} : ∀ vs:List Value,Qfm w S (Qp2 vs) vs []
 | []=>by simp [Qp2,Qfm]
 | v :: vs=>by
  simp only [Qp2,List.map_cons,Qfm]
  exact ⟨v,vs,[],[],rfl,rfl,by simp [rep],Qxw vs⟩
theorem Qx7 {w:World} {S:Nat→Prop} {sz cap:Nat} {A:Option Addr}:rep w S (.ro sz []) (.slice A 0 cap) []:=by
 simp only [rep]
 exact ⟨trivial,A,cap,rfl,by simp,.inl trivial⟩
end Go.T
set_option linter.unusedVariables false
namespace Go.T
open Go Go.RowKit Go.Proofs
section
variable {H:Type} {enc:TypeId×Value→H} {P:Program} {w:World}
def Qsw (enc:TypeId×Value→H) (P:Program) (w:World) (t:TypeId) {α:Type} (f : α→List AV) (G : α→Prop) : Prop:=
 ∀ (fuel:Nat) (cs:List Value) (x:DataW H×List MemPlace),DataW.trod enc P w 0 (fun _=>true) true fuel t cs=some x →
  (∀ u∈cs,u.oneCell'=true)∧∃ a,G a∧Qfm w (fun b=>b<w.heap.size) (f a) cs []
theorem Xfg {S:Nat→Prop} {v:Value}:Qfm w S [.lit v] [v] []:=Qxw [v]
theorem Xd0 {t:TypeId} {k:IntKind} (ht:P.underlying t=some (.int k)) : Qsw enc P w t (fun n:Int=>[AV.lit (.int k n)]) (fun n=>(Lit.int k n).wf=true):=by
 intro fuel cs x h
 obtain ⟨n,rfl,_,hw⟩:=DataW.trod_int ht h
 exact ⟨by simp [Value.oneCell'],n,hw,Xfg⟩
theorem Qsw.map {t:TypeId} {α β:Type} {f : α→List AV} {G : α→Prop} {f' : β→List AV} {G' : β→Prop} (h:Qsw enc P w t f G) (g : α→β) (hf : ∀ a,f' (g a)=f a) (hG : ∀ a,G a→G' (g a)) : Qsw enc P w t f' G':=by
 intro fuel cs x hx
 obtain ⟨h1,a,h2,h3⟩:=h fuel cs x hx
 exact ⟨h1,g a,hG a h2,by rw [hf];exact h3⟩
theorem Qt7 {S:Nat→Prop} {α:Type} {f : α→List AV} {sz:Nat} : ∀ (l:List (α×List Value)),(∀ p∈l,p.2.length=sz∧(∀ u∈p.2,u.oneCell'=true)∧Qfm w S (f p.1) p.2 [])→Qdt w S sz (l.map fun p=>f p.1) (l.map (·.2)).flatten []
 | [],_=>by simp [Qdt]
 | p :: l,h=>by
  obtain ⟨h1,h2,h3⟩:=h p List.mem_cons_self
  simp only [List.map_cons,List.flatten_cons,Qdt]
  exact ⟨p.2,_,[],[],rfl,rfl,h1,h2,h3,Qt7 l (fun q hq=>h q (List.mem_cons_of_mem _ hq))⟩
theorem Qyq {t e:TypeId} {sz:Nat} {α:Type} [Inhabited α] {f : α→List AV} {G : α→Prop} (ht:P.underlying t=some (.slice e)) (hsz:P.cellsOf e=sz) (hz : 0<sz) (h:Qsw enc P w e f G) :
    Qsw enc P w t (fun l:List α=>[AV.ro sz (l.map f)]) (fun l=>l.length≤9223372036854775807∧∀ y∈l,G y):=by
  intro fuel cs x hx0
  rcases Deep.open_slice ht hx0 with ⟨rfl,_⟩ | ⟨a,len,cap,m,n,D,Pl,rfl,_,hl,hm,hmm,_,hx⟩
  · refine ⟨by simp [Value.oneCell'],[],⟨by simp,by simp⟩,?_⟩
    simp only [List.map_nil,Qfm]
    exact ⟨_,[],[],[],rfl,rfl,Qx7,rfl,rfl⟩
  · refine ⟨by simp [Value.oneCell'],?_⟩
    simp at hmm
    subst hmm
    rcases Nat.eq_zero_or_pos len with h0 | h0
    · subst h0
      refine ⟨[],⟨by simp,by simp⟩,?_⟩
      simp only [List.map_nil,Qfm]
      exact ⟨_,[],[],[],rfl,rfl,Qx7,rfl,rfl⟩
    obtain ⟨g,hg⟩:=Deep.choose_lt (α:=α×List Value) (n:=m) (p:=fun i q=>G q.1∧Qfm w (fun b=>b<w.heap.size) (f q.1) q.2 []∧(∀ u∈q.2,u.oneCell'=true)∧q.2.length=sz∧∀ k,k<sz→w.cell? ((a.add (i * sz)).add k)=q.2[k]?) (fun i hi=>by
      obtain ⟨cs',h2,h3⟩:=hx i hi
      obtain ⟨k1,y,k2,k3⟩:=h _ _ _ h3
      obtain ⟨_,h5,h4⟩:=World.cells?_some h2
      rw [hsz] at h4 h5
      exact ⟨(y,cs'),k2,k3,k1,h5,h4⟩)
    obtain ⟨q1,q2,q3,q4,q5⟩:=hg 0 (by omega)
    have hcell0:w.cell? a=(g 0).2[0]?:=by
      have:=q5 0 hz
      simpa [Addr.add] using this
    obtain ⟨u0,hu0⟩ : ∃ u,(g 0).2[0]? = some u:=⟨(g 0).2[0]'(by rw [q4];exact hz),by simp⟩
    rw [hu0] at hcell0
    obtain ⟨b,o,sp⟩:=a
    have hsp:sp=none:=World.cell?_spot hcell0
    subst hsp
    have hb:b<w.heap.size:=block_lt_of_cell hcell0
    let L:List (α×List Value):=(List.range len).map g
    have hLl:L.length=len:=by simp [L]
    refine ⟨L.map (·.1),⟨by rw [List.length_map,hLl];exact Nat.le_trans hl hm,fun y hy=>?_⟩,?_⟩
    · obtain ⟨q,hq,rfl⟩:=List.mem_map.1 hy
      obtain ⟨i,hi,rfl⟩:=List.mem_map.1 hq
      exact (hg i (by have:=List.mem_range.1 hi;omega)).1
    · simp only [Qfm]
      refine ⟨_,[],[],[],rfl,rfl,?_,rfl,rfl⟩
      simp only [rep]
      refine ⟨trivial,some ⟨b,o,none⟩,m,by simp [hLl],by simpa [hLl] using hl,.inr ⟨b,o,(L.map (·.2)).flatten,rfl,hb,?_,?_⟩⟩
      · refine Xeo (sz:=sz) (L.map (·.2)) o (fun r hr=>?_) (fun i r hr=>?_)
        · obtain ⟨q,hq,rfl⟩:=List.mem_map.1 hr
          obtain ⟨i,hi,rfl⟩:=List.mem_map.1 hq
          exact (hg i (by have:=List.mem_range.1 hi;omega)).2.2.2.1
        · intro k v hk
          simp only [L,List.getElem?_map,Option.map_eq_some_iff] at hr
          obtain ⟨q,⟨j,hj,rfl⟩,rfl⟩:=hr
          have hji:=List.getElem?_eq_some_iff.1 hj
          simp at hji
          obtain ⟨hil,rfl⟩:=hji
          obtain ⟨_,_,_,h4,h5⟩:=hg i (by omega)
          have hks:k<sz:=by rw [← h4];exact (List.getElem?_eq_some_iff.1 hk).1
          have:=h5 k hks
          rw [hk] at this
          have e:((⟨b,o,none⟩ : Addr).add (i * sz)).add k=⟨b,o+i * sz+k,none⟩:=by
            unfold Addr.add
            split <;> split <;> simp_all
          rwa [e] at this
      · have:=Qt7 (w:=w) (S:=fun b=>b<w.heap.size) (f:=f) (sz:=sz) L (fun p hp=>by
          obtain ⟨i,hi,rfl⟩:=List.mem_map.1 hp
          obtain ⟨_,h2,h3,h4,_⟩:=hg i (by have:=List.mem_range.1 hi;omega)
          exact ⟨h4,h3,h2⟩)
        rw [List.map_map]
        exact this
theorem Xdf {t:TypeId} {v:Value} {d:DataW H} {ps:List MemPlace} {α:Type} {f : α→AV} {G : α→Prop} (ho:Qsw enc P w t (fun x=>[f x]) G) (h:DataW.Trod enc P w 0 (fun _=>true) true t v d ps) (hv:v.cells = #[v]) : ∃ a,G a∧rep w (fun b=>b<w.heap.size) (f a) v []:=by
 obtain ⟨fuel,hf⟩:=h
 obtain ⟨_,a,h1,h2⟩:=ho fuel _ _ hf
 rw [hv] at h2
 simp only [Qfm] at h2
 obtain ⟨u,us,f1,f2,e,ef,h3,rfl,rfl⟩:=h2
 obtain ⟨rfl,_⟩:=List.append_eq_nil_iff.1 ef.symm
 cases e
 exact ⟨a,h1,h3⟩
theorem Qzt {t:TypeId} {v:Value} {d:DataW H} {ps:List MemPlace} {α:Type} {f : α→AV} {G : α→Prop} (ho:Qsw enc P w t (fun x=>[f x]) G) (h:DataW.Trod enc P w 0 (fun _=>true) true t v d ps) (hv : ∃ a len cap,v = .slice a len cap) : ∃ a,G a∧rep w (fun b=>b<w.heap.size) (f a) v []:=by
 obtain ⟨_,_,_,rfl⟩:=hv
 exact Xdf ho h rfl
end
end Go.T
set_option linter.unusedVariables false
namespace Go.T
open Go Go.RowKit Go.Proofs
def Xf1:AV→Bool
 | .lit v=>v.oneCell' && nf v
 | _=>false
def unl:AV→Value
 | .lit v=>v
 | _=>undef
def litR (xs:List (List AV)) : Bool:=xs.all fun r=>r.all Xf1
def valR (xs:List (List AV)) : List Value:=(xs.map fun r=>r.map unl).flatten
theorem Qwd {w:World} {S U:Nat→Prop} {ρ:Tab} : ∀ (x:List AV) (us:List Value) (f:List Nat),x.all Xf1=true→Qah w S U ρ x us f→us=x.map unl∧f=[]
 | [],us,f,_,h=>by simp only [Qah] at h;exact ⟨h.1,h.2⟩
 | c :: x,us,f,hl,h=>by
  simp only [List.all_cons,Bool.and_eq_true] at hl
  simp only [Qah] at h
  obtain ⟨u,us',f1,f2,rfl,rfl,h1,h2⟩:=h
  obtain ⟨e1,e2⟩:=Qwd x us' f2 hl.2 h2
  cases c with
  | lit v =>
   simp only [repR,rep] at h1
   simp only [Xf1,Bool.and_eq_true] at hl
   exact ⟨by rw [e1,h1.2.eq hl.1.2];rfl,by rw [h1.1,e2];rfl⟩
  | _=>simp [Xf1] at hl
theorem Qtz {w:World} {S U:Nat→Prop} {ρ:Tab} {sz:Nat} : ∀ (xs:List (List AV)) (vs:List Value) (f:List Nat),litR xs=true→Qao w S U ρ sz xs vs f→vs=valR xs∧f=[]∧∀ r∈xs,r.length=sz
 | [],vs,f,_,h=>by simp only [Qao] at h;exact ⟨h.1,h.2,by simp⟩
 | x :: xs,vs,f,hl,h=>by
  simp only [litR,List.all_cons,Bool.and_eq_true] at hl
  simp only [Qao] at h
  obtain ⟨us,us',f1,f2,rfl,rfl,h1,_,h2,h3⟩:=h
  obtain ⟨e1,e2⟩:=Qwd x us f1 hl.1 h2
  obtain ⟨e3,e4,e5⟩:=Qtz xs us' f2 hl.2 h3
  refine ⟨by rw [e1,e3];rfl,by rw [e2,e4];rfl,fun r hr=>?_⟩
  rcases List.mem_cons.1 hr with rfl | hr
  ·rw [← h1,e1,List.length_map]
  ·exact e5 r hr
theorem Qci.block {E:Env} {s:St} {a:Act} {w:World} {χ:Nat→Option Nat} {hd:Nat→Value} (h:Qci E s a w χ hd) {i:Nat} {R:Qae} (hR:s.root i=some R) (hl:litR R.xs=true) (hp : 0<R.xs.length) :
  ∃ b cap cur,hd i = .slice (some ⟨b,0,none⟩) R.xs.length cap∧w.heap[b]? = some (.cells cur R.T (0,0))∧cur.size=cap * R.sz∧R.xs.length≤cap∧cap≤maxLen∧cur.toList.take (R.xs.length * R.sz)=valR R.xs∧(∀ r∈R.xs,r.length=R.sz)∧χ b=some i:=by
 obtain ⟨_,fp,⟨hz,vs,fp',hown,hrep,rfl⟩,_,hcol⟩:=h.rts i R hR
 obtain ⟨e1,e2,e3⟩:=Qtz _ _ _ hl hrep
 rcases hown.2 with ⟨_,hn⟩ | ⟨b,cap,cur,hhd,_,hheap,hnc,hcm,hcs,htake⟩
 ·omega
 ·exact ⟨b,cap,cur,hhd,hheap,hcs,hnc,hcm,by rw [htake,e1],e3,hcol b (by simp [hhd,Value.ownBlock])⟩
end Go.T
set_option linter.unusedVariables false
namespace Go.T
open Go Go.RowKit Go.Proofs
def STo (E:Env) (ops:Array Oper) (o:Oper) (sl:List (Nat×AV)) (X Y:List (Nat×Option Qae)×List Nat) (d:Nat) (r:AV) : Prop:=
 ∀ sl2,Qrx sl sl2→∀ a w (Q:Exit→Act→World→Prop) (K:Act→World→Prop),Rel E ⟨sl2,X.1,X.2⟩ a w→(∀ a' w',Rel E ⟨(d,r) :: sl2,Y.1,Y.2⟩ a' w'→K a' w') →
  (if Region.wanted o (yielded ops a.tmps) then o.wp E.P a w K Q∨(o.asks E.P a w∧LetsOut Q) else K (a.put o.dst undef) w)
theorem STo.of {E:Env} {ops:Array Oper} {o:Oper} {sl:List (Nat×AV)} {X:List (Nat×Option Qae)×List Nat} {d:Nat} {r:AV} (h:VTo E ops o sl X.1 X.2 d r) : STo E ops o sl X X d r:=h
abbrev Rts:=List (List (Nat×Option Qae)×List Nat)
def rts (R:Rts) (c:Nat) : List (Nat×Option Qae)×List Nat:=(R[c]?).getD ([],[])
def Xa6 (Ms:List Nat) (listed:Array Bool) : Nat:=Ms.countP (fun j=>listed.getD j false)
def Qqc (A:List (List Nat)) (i:Nat) : List Nat:=(A[i]?).getD []
def loM (Ms:List Nat) (A:List (List Nat)) (i:Nat) : Nat:=Ms.countP (fun k=>(Qqc A i).contains k)
def hiM (Ms:List Nat) (A:List (List Nat)) (i:Nat) : Nat:=Ms.countP (fun k=>k != i && !(Qqc A k).contains i)
def dM (Ms:List Nat) (i:Nat) : Nat:=if Ms.contains i then 1 else 0
def Xbp (l:List Oper) (m:Nat) (A:List (List Nat)) : Bool:=(List.range m).all fun i=>(Qqc A i).all fun j=>match l[i]? with
 | some o=>(Qbn o).contains j || (Qbn o).any fun e=>(Qqc A e).contains j
 | none=>false
def Clo (l:List Oper) (m:Nat) (listed:Array Bool) : Prop:=∀ i o,i<m→l[i]? = some o→listed.getD i false=true→∀ j∈Qbn o,listed.getD j false=true
theorem Qm3 {l:List Oper} {m:Nat} {A:List (List Nat)} (hA:Xbp l m A=true) (hml:m≤l.length) (hedge : ∀ i o,i<m→l[i]? = some o→∀ j∈Qbn o,j<i) {listed:Array Bool} (hc:Clo l m listed) : ∀ i,i<m→(∀ o,l[i]? = some o→∀ j∈Qbn o,listed.getD j false=true)→∀ j∈Qqc A i,listed.getD j false=true:=by
 intro i
 induction i using Nat.strongRecOn with
 | ind i ih =>
  intro hi hr j hj
  simp only [Xbp,List.all_eq_true] at hA
  have:=hA i (List.mem_range.2 hi) j hj
  obtain ⟨o,ho⟩ : ∃ o,l[i]? = some o:=⟨l[i]'(by omega),by simp⟩
  rw [ho] at this
  simp only [Bool.or_eq_true,List.contains_iff_mem,List.any_eq_true] at this
  rcases this with h | ⟨e,he,h⟩
  ·exact hr o ho j h
  ·have hlt:=hedge i o hi ho e he
   refine ih e hlt (by omega) (fun oe hoe k hk=>hc e oe (by omega) hoe (hr o ho e he) k hk) j h
theorem Qnx {α:Type} {f g : α→Bool} : ∀ {l:List α},(∀ x∈l,f x=true→g x=true)→l.countP f≤l.countP g
 | [],_=>Nat.le_refl _
 | x :: l,h=>by
  have ih:=Qnx (f:=f) (g:=g) (l:=l) (fun y hy=>h y (List.mem_cons_of_mem _ hy))
  have hx:=h x List.mem_cons_self
  rw [List.countP_cons,List.countP_cons]
  cases hf:f x
  ·simp;omega
  ·rw [hx hf];simp;omega
theorem Xcb {l:List Oper} {m:Nat} {A:List (List Nat)} (hA:Xbp l m A=true) (hml:m≤l.length) (hedge : ∀ i o,i<m→l[i]? = some o→∀ j∈Qbn o,j<i) {Ms:List Nat} (hMs : ∀ k∈Ms,k<m) {listed:Array Bool} (hc:Clo l m listed) {i:Nat} (hi:i<m) {o:Oper} (ho:l[i]? = some o) (hr : ∀ j∈Qbn o,listed.getD j false=true) (hu:listed.getD i false=false) :
  loM Ms A i≤Xa6 Ms listed∧Xa6 Ms listed≤hiM Ms A i:=by
 have hanc:=Qm3 hA hml hedge hc
 refine ⟨Qnx fun k _ hk=>?_,Qnx fun k hkm hk=>?_⟩
 ·exact hanc i hi (fun o' ho'=>by rw [ho] at ho';cases ho';exact hr) k (by simpa using hk)
 ·simp only [Bool.and_eq_true,bne_iff_ne,Bool.not_eq_true',ne_eq]
  refine ⟨?_,?_⟩
  ·rintro rfl;rw [hu] at hk;cases hk
  ·cases hcn:(Qqc A k).contains i with
   | false=>rfl
   | true =>
    have:=hanc k (hMs k hkm) (fun o' ho' j hj=>hc k o' (hMs k hkm) ho' hk j hj) i (by simpa using hcn)
    rw [hu] at this;cases this
theorem Xiz {Ms:List Nat} (hn:Ms.Nodup) {listed:Array Bool} {i:Nat} (hi:i<listed.size) (hu:listed.getD i false=false) : Xa6 Ms (listed.setIfInBounds i true)=Xa6 Ms listed+dM Ms i:=by
 have hs:(listed.setIfInBounds i true).getD i false=true:=by simp [hi]
 have hne : ∀ j,j≠i→(listed.setIfInBounds i true).getD j false=listed.getD j false:=fun j hj=>Go.getD_set_ne false (Ne.symm hj)
 have key : ∀ Ms:List Nat,Ms.Nodup→Xa6 Ms (listed.setIfInBounds i true)=Xa6 Ms listed+dM Ms i:=by
  intro Ms
  induction Ms with
  | nil=>intro _;simp [Xa6,dM]
  | cons k Ms ih =>
   intro hn
   obtain ⟨h1,h2⟩:=List.nodup_cons.1 hn
   have ih:=ih h2
   unfold Xa6 dM at ih ⊢
   rw [List.countP_cons,List.countP_cons,ih]
   by_cases hk:k=i
   ·subst hk
    have:Ms.contains k=false:=by simpa using h1
    rw [this,hs,hu];simp
   ·rw [hne k hk]
    have:((k :: Ms).contains i)=Ms.contains i:=by
     rw [List.contains_cons]
     have:(i == k)=false:=by simp;exact fun e=>hk e.symm
     rw [this,Bool.false_or]
    rw [this];omega
 exact key Ms hn
def Xji (E:Env) (l:List Oper) (m:Nat) (sl:List (Nat×AV)) (R:Rts) (Ms:List Nat) (rd:List (Nat×AV)) (listed:Array Bool) (a:Act) (w:World) : Prop:=
 Clo l m listed∧∃ sl2,Rel E ⟨sl2,(rts R (Xa6 Ms listed)).1,(rts R (Xa6 Ms listed)).2⟩ a w∧(∀ j o d r,j<m→l[j]? = some o→listed.getD j false=true→o.dst=some d→rd.lookup d=some r→r.nd=true→sl2.lookup d=some r)∧(∀ t c,rd.lookup t=none→sl.lookup t=some c→c.nd=true→sl2.lookup t=some c)
def MOne (E:Env) (l:List Oper) (m:Nat) (sl:List (Nat×AV)) (R:Rts) (Ms:List Nat) (A:List (List Nat)) (rd:List (Nat×AV)) : Prop:=
 ∀ i o,i<m→l[i]? = some o→∃ d r,o.dst=some d∧rd.lookup d=some r∧∀ c,loM Ms A i≤c→c≤hiM Ms A i→STo E l.toArray o (Qc6 l rd o++(Qfx (l.take m)++sl)) (rts R c) (rts R (c+dM Ms i)) d r
theorem Xca {E:Env} {l:List Oper} {m:Nat} {sl:List (Nat×AV)} {R:Rts} {Ms:List Nat} {A:List (List Nat)} {rd:List (Nat×AV)} (hone:MOne E l m sl R Ms A rd) (hA:Xbp l m A=true) (hml:m≤l.length) (hMs : ∀ k∈Ms,k<m) (hMn:Ms.Nodup)
  (hdist : ∀ i j oi oj d,i<m→j<m→l[i]? = some oi→l[j]? = some oj→oi.dst=some d→oj.dst=some d→i=j)
  (hrd : ∀ d r,rd.lookup d=some r→∃ j o,j<m∧l[j]? = some o∧o.dst=some d) (hedge : ∀ i o,i<m→l[i]? = some o→∀ j∈Qbn o,j<i)
  {Q:Exit→Act→World→Prop} {K:Act→World→Prop} {listed:Array Bool} {a:Act} {w:World} {i:Nat} {o:Oper} (hi:i<m) (ho:l[i]? = some o) (hready : ∀ j∈Qbn o,listed.getD j false=true) (hu:listed.getD i false=false) (hsz:i<listed.size) (hinv:Xji E l m sl R Ms rd listed a w)
  (hk : ∀ a' w',Xji E l m sl R Ms rd (listed.setIfInBounds i true) a' w'→K a' w') : wpOp E.P l.toArray Q i K a w:=by
 obtain ⟨hclo,sl2,hr,hAA,hB⟩:=hinv
 obtain ⟨d,r,hd,hrr,hv⟩:=hone i o hi ho
 obtain ⟨c1,c2⟩:=Xcb hA hml hedge hMs hclo hi ho hready hu
 have hv:=hv _ c1 c2
 have ho':l.toArray[i]? = some o:=by simpa using ho
 have hclo':Clo l m (listed.setIfInBounds i true):=by
  intro k ok hkm hok hkl j hj
  have hji:j≠i:=by
   rintro rfl
   by_cases e:k=j
   ·subst e;exact Nat.lt_irrefl _ (hedge k ok hkm hok k hj)
   ·rw [Go.getD_set_ne false (Ne.symm e)] at hkl
    have:=hclo k ok hkm hok hkl j hj
    rw [hu] at this;cases this
  rw [Go.getD_set_ne false (Ne.symm hji)]
  by_cases e:k=i
  ·subst e;rw [ho] at hok;cases hok;exact hready j hj
  ·rw [Go.getD_set_ne false (Ne.symm e)] at hkl
   exact hclo k ok hkm hok hkl j hj
 unfold wpOp
 rw [ho']
 refine hv sl2 ?_ a w Q K hr (fun a' w' hr'=>hk a' w' ⟨hclo',_,by rw [Xiz hMn hsz hu];exact hr',?_,?_⟩)
 ·intro t c ht hn
  rcases Qau _ _ _ _ ht with h | ⟨h0,h⟩
  ·have hm:=Qb6 h
   simp only [Qc6,List.mem_filterMap] at hm
   obtain ⟨e,he,hm⟩:=hm
   split at hm
   case isFalse=>cases hm
   rename_i hb
   obtain ⟨d',hd',hm⟩:=Option.bind_eq_some_iff.1 hm
   obtain ⟨oj,hoj,hdj⟩:=Option.bind_eq_some_iff.1 hd'
   obtain ⟨r',hr',hm⟩:=Option.map_eq_some_iff.1 hm
   cases hm
   have hej:e.on∈Qbn o:=by
    simp only [Qbn,List.mem_filterMap]
    exact ⟨e,he,by rw [if_pos hb]⟩
   have hlt:e.on<m:=Nat.lt_trans (hedge i o hi ho _ hej) hi
   exact hAA e.on oj _ _ hlt hoj (hready _ hej) hdj hr' hn
  ·rcases Qau _ _ _ _ h with h | ⟨h1,h⟩
   ·have hm:=Qb6 h
    simp only [Qfx,List.mem_filterMap] at hm
    obtain ⟨_,_,hm⟩:=hm
    obtain ⟨_,_,hm⟩:=Option.map_eq_some_iff.1 hm
    cases hm
    cases hn
   ·refine hB t c ?_ h hn
    cases hl:rd.lookup t with
    | none=>rfl
    | some r' =>
     obtain ⟨j,oj,hj,hoj,hdj⟩:=hrd _ _ hl
     have:(t,AV.dead)∈Qfx (l.take m):=by
      simp only [Qfx,List.mem_filterMap]
      exact ⟨oj,List.mem_of_getElem? (show (l.take m)[j]? = some oj by rw [List.getElem?_take,if_pos hj];exact hoj),by rw [hdj];rfl⟩
     obtain ⟨c',hc'⟩:=Qe4 this
     rw [h1] at hc';cases hc'
 ·intro j oj d' r' hj hoj hl hdj hrd' hn
  by_cases e:d'=d
  ·subst e
   have:=hdist i j o oj d' hi hj ho hoj hd hdj
   subst this
   rw [Qan]
   rw [hrr] at hrd';exact hrd'
  ·rw [Qaf e]
   have hne:i≠j:=by
    rintro rfl
    rw [ho] at hoj;cases hoj
    rw [hd] at hdj;cases hdj;exact e rfl
   rw [Go.getD_set_ne false hne] at hl
   exact hAA j oj d' r' hj hoj hl hdj hrd' hn
 ·intro t c hl hs hn
  by_cases e:t=d
  ·subst e;rw [hrr] at hl;cases hl
  ·rw [Qaf e];exact hB t c hl hs hn
theorem Qxo {E:Env} {l:List Oper} {m:Nat} {sl:List (Nat×AV)} {R:Rts} {Ms:List Nat} {A:List (List Nat)} {rd:List (Nat×AV)} (hone:MOne E l m sl R Ms A rd) (hA:Xbp l m A=true) (hMs : ∀ k∈Ms,k<m) (hMn:Ms.Nodup)
    (hdist : ∀ i j oi oj d,i<m→j<m→l[i]? = some oi→l[j]? = some oj→oi.dst=some d→oj.dst=some d→i=j)
    (hrd : ∀ d r,rd.lookup d=some r→∃ j o,j<m∧l[j]? = some o∧o.dst=some d) (hedge : ∀ i o,i<m→l[i]? = some o→∀ j∈Qbn o,j<i) (htail : ∀ i o,m≤i→l[i]? = some o→∀ j,j<m→∃ e∈Qbn o,m≤e∨e=j∨j∈Qqc A e) (hml:m≤l.length)
    {Q:Exit→Act→World→Prop} (hseq:Region.seqB .any l.toArray (l.length - m) m (Qlo l.length m)=true)
    (hend : ∀ a w,Xji E l m sl R Ms rd (Qlo l.length m) a w→wpList E.P l.toArray Q (l.drop m) a w) :
    ∀ (u:Nat) (listed:Array Bool) (a:Act) (w:World),listed.size=l.length→(∀ j,m≤j→listed.getD j false=false)→(List.range m).countP (fun j => !listed.getD j false)=u→Xji E l m sl R Ms rd listed a w→wpAny E.P .any l.toArray Q (l.length - m+u) listed a w
  | 0,listed,a,w,hs,ht,hu,hinv=>by
    have hall : ∀ j,j<m→listed.getD j false=true:=by
      intro j hj
      have:=List.countP_eq_zero.1 hu j (by simpa using hj)
      simpa using this
    have e:listed=Qlo l.length m:=by
      apply Array.ext
      · simp [Qlo,hs];omega
      · intro j h1 h2
        have e1:listed.getD j false=listed[j]:=by rw [Array.getD_eq_getD_getElem?,Array.getElem?_eq_getElem h1];rfl
        rw [← e1]
        simp only [Qlo,List.getElem_toArray]
        by_cases hj:j<m
        · rw [hall j hj,List.getElem_append_left (by simpa using hj)];simp
        · rw [ht j (by omega),List.getElem_append_right (by simpa using hj)];simp
    subst e
    have h0:=hend a w hinv
    have:=wpAny_of_seq (md:=.any) (Q':=Q) (l.drop m) m (Qlo l.length m) a w (fun j=>by simp [List.getElem?_drop]) (by simpa using hseq) h0
    simpa using this
  | u+1,listed,a,w,hs,ht,hu,hinv=>by
    have hs':listed.size=l.toArray.size:=by simpa using hs
    have hex : ∃ j,j<m∧listed.getD j false=false:=by
      have : 0<(List.range m).countP (fun j => !listed.getD j false):=by omega
      obtain ⟨j,hj,hj2⟩:=List.countP_pos_iff.1 this
      exact ⟨j,by simpa using hj,by simpa using hj2⟩
    obtain ⟨j0,hj0,hj1⟩:=hex
    obtain ⟨i0,hi0,hi1,hi2⟩:=Qjm m j0 hj0 hj1
    rw [← Nat.add_assoc]
    refine ⟨fun hnil=>?_,fun i hi=>?_⟩
    · obtain ⟨o,ho⟩ : ∃ o,l[i0]? = some o:=⟨l[i0]'(by omega),by simp⟩
      have:i0∈Region.ready .any l.toArray listed:=(Qjx hs').2 ⟨o,by simpa using ho,hi1,fun j hj=>hi2 j (hedge i0 o hi0 ho j hj)⟩
      rw [hnil] at this;cases this
    · obtain ⟨o,ho,hl,hr⟩:=(Qjx hs').1 hi
      have ho:l[i]? = some o:=by simpa using ho
      have him:i<m:=by
        rcases Nat.lt_or_ge i m with h | h
        · exact h
        · obtain ⟨e,he,h1⟩:=htail i o h ho i0 hi0
          have hel:=hr e he
          have:listed.getD i0 false=true:=by
            rcases h1 with h1 | h1 | h1
            · rw [ht e h1] at hel;cases hel
            · rw [← h1];exact hel
            · have hem:e<m:=by
                rcases Nat.lt_or_ge e m with h2 | h2
                · exact h2
                · rw [ht e h2] at hel;cases hel
              exact Qm3 hA hml hedge hinv.1 e hem (fun oe hoe k hk=>hinv.1 e oe hem hoe hel k hk) i0 h1
          rw [hi1] at this;cases this
      refine Xca hone hA hml hMs hMn hdist hrd hedge him ho hr hl (by omega) hinv (fun a' w' hinv'=>?_)
      refine Qxo hone hA hMs hMn hdist hrd hedge htail hml hseq hend u _ a' w' (by simpa using hs) ?_ ?_ hinv'
      · intro j hj
        rw [Go.getD_set_ne false (by omega)]
        exact ht j hj
      · have:=Qkp (f:=fun j => !listed.getD j false) (g:=fun j => !(listed.setIfInBounds i true).getD j false) (i:=i) (l:=List.range m) List.nodup_range (by simpa using him) (by simp [hl]) (by
          have:i<listed.size:=by rw [hs];omega
          simp [this]) (fun j hj=>by simp only [Go.getD_set_ne false (Ne.symm hj)])
        omega
def rdB (l:List Oper) (m:Nat) (rd:List (Nat×AV)) : Bool:=(rd.map (·.1)).all fun d=>(l.take m).any fun o=>o.dst == some d
def Xbl (ops:List Oper) (m:Nat) (A:List (List Nat)) : Bool:=(ops.zipIdx.drop m).all fun p=>(List.range m).all fun j=>(Qbn p.1).any fun e=>decide (m≤e) || e == j || (Qqc A e).contains j
theorem Xbw {E:Env} {id:Nat} {ops:Array Oper} {sl:List (Nat×AV)} {R:Rts} {Ms:List Nat} {A:List (List Nat)} {rd:List (Nat×AV)} {Q:Exit→St→Prop} (m:Nat) (hm:E.P.follows .mixedOrders=true)
  (hh:Qui ops.toList m=true) (ht:Xbl ops.toList m A=true) (hseq:Region.seqB .any ops (ops.toList.length - m) m (Qlo ops.toList.length m)=true)
  (hA:Xbp ops.toList m A=true) (hMs:Ms.all (fun k=>decide (k<m))=true) (hMn:Ms.Nodup) (hrd:rdB ops.toList m rd=true)
  (hone:MOne E ops.toList m sl R Ms A rd) (h:RW E ops (ops.toList.drop m) ⟨rd++sl,(rts R Ms.length).1,(rts R Ms.length).2⟩ (Q .normal)) : TWp E (.region id ops true) Q ⟨sl,(rts R 0).1,(rts R 0).2⟩:=by
 obtain ⟨l⟩:=ops
 simp only at hh ht hseq hone h hA hrd
 simp only [Qui,Bool.and_eq_true,decide_eq_true_eq,List.all_eq_true] at hh
 obtain ⟨⟨⟨hh1,hh2⟩,hh3⟩,hml⟩:=hh
 simp only [Xbl,List.all_eq_true] at ht
 have htk : ∀ i o,i<m→l[i]? = some o→(l.take m)[i]? = some o:=fun i o hi ho=>by rw [List.getElem?_take,if_pos hi];exact ho
 have hedge : ∀ i o,i<m→l[i]? = some o→∀ j∈Qbn o,j<i:=by
  intro i o hi ho j hj
  have:(o,i)∈(l.take m).zipIdx:=by
   rw [List.mem_zipIdx_iff_getElem?];exact htk i o hi ho
  simpa using hh1 _ this j hj
 have htail : ∀ i o,m≤i→l[i]? = some o→∀ j,j<m→∃ e∈Qbn o,m≤e∨e=j∨j∈Qqc A e:=by
  intro i o hi ho j hj
  have:(o,i)∈l.zipIdx.drop m:=by
   apply List.mem_of_getElem? (i:=i - m)
   rw [List.getElem?_drop,show m+(i - m)=i by omega,List.getElem?_zipIdx,ho]
   simp
  have:=ht _ this j (by simpa using hj)
  obtain ⟨e,he,h⟩:=List.any_eq_true.1 this
  refine ⟨e,he,?_⟩
  simp only [Bool.or_eq_true,decide_eq_true_eq,beq_iff_eq,List.contains_iff_mem] at h
  rcases h with (h | h) | h
  ·exact .inl h
  ·exact .inr (.inl h)
  ·exact .inr (.inr h)
 have hMs' : ∀ k∈Ms,k<m:=by
  intro k hk
  simpa using List.all_eq_true.1 hMs k hk
 have hdist : ∀ i j oi oj d,i<m→j<m→l[i]? = some oi→l[j]? = some oj→oi.dst=some d→oj.dst=some d→i=j:=fun i j oi oj d hi hj hoi hoj hdi hdj =>
  Qiu hh2 i j oi oj d (htk i oi hi hoi) (htk j oj hj hoj) hdi hdj
 have hrd' : ∀ d r,rd.lookup d=some r→∃ j o,j<m∧l[j]? = some o∧o.dst=some d:=by
  intro d r hl
  have h1:d∈rd.map (·.1):=List.mem_map.2 ⟨_,Qb6 hl,rfl⟩
  have h2:=List.all_eq_true.1 hrd d h1
  obtain ⟨o,ho,hdo⟩:=List.any_eq_true.1 h2
  obtain ⟨j,hj⟩:=List.mem_iff_getElem?.1 ho
  rw [List.getElem?_take] at hj
  split at hj
  ·exact ⟨j,o,by assumption,hj,by simpa using hdo⟩
  ·cases hj
 have hgd0 : ∀ (n j:Nat),(Array.replicate n false).getD j false=false:=fun n j=>by
  rw [Array.getD_eq_getD_getElem?,Array.getElem?_replicate]
  split <;> rfl
 have hc0:Xa6 Ms (Array.replicate l.length false)=0:=by
  unfold Xa6
  rw [List.countP_eq_zero]
  intro j _
  rw [hgd0];simp
 have hgd1 : ∀ j,j<m→(Qlo l.length m).getD j false=true:=fun j hj=>by
  rw [Array.getD_eq_getD_getElem?]
  simp only [Qlo,List.getElem?_toArray]
  rw [List.getElem?_append_left (by simpa using hj)]
  simp [hj]
 have hc1:Xa6 Ms (Qlo l.length m)=Ms.length:=by
  unfold Xa6
  rw [List.countP_eq_length]
  intro j hj
  rw [hgd1 j (hMs' j hj)]
 intro a w hr
 refine wp_region_any hm ?_
 have hstart:Xji E l m sl R Ms rd (Array.replicate l.length false) a { w with drawn:=w.drawn+1 }:=by
  refine ⟨fun i o _ _ hl=>(by rw [hgd0] at hl;cases hl),sl,?_,?_,fun t c _ h _=>h⟩
  ·rw [hc0]
   obtain ⟨χ,hd',h0⟩:=hr
   exact ⟨χ,hd',h0.world rfl rfl Tp.drew rfl⟩
  ·intro j o d r hj ho hl
   rw [hgd0] at hl;cases hl
 have hcnt:(List.range m).countP (fun j => !(Array.replicate l.length false).getD j false)=m:=by
  rw [List.countP_eq_length.2]
  ·simp
  ·intro j hj
   rw [hgd0];rfl
 have hfin : ∀ a w,Xji E l m sl R Ms rd (Qlo l.length m) a w→wpList E.P l.toArray (fun e a' w' => ∃ s',Q e s'∧Rel E s' a' w') (l.drop m) a w:=by
  rintro a w ⟨_,sl2,hr0,hAA,hB⟩
  rw [hc1] at hr0
  obtain ⟨χ,hd',hr⟩:=hr0
  refine h a w _ ⟨χ,hd',hr.weak (s2:=⟨rd++sl,(rts R Ms.length).1,(rts R Ms.length).2⟩) (fun t=>?_) (fun _=>rfl) rfl⟩ (fun s' a' w' hs' hr'=>⟨s',hs',hr'⟩)
  simp only [St.get]
  cases hl:(rd++sl).lookup t with
  | none=>right;rfl
  | some c =>
   cases hn:c.nd with
   | false=>right;cases c <;> first | rfl | cases hn
   | true =>
    left
    rcases Qau _ _ _ _ hl with h | ⟨h1,h⟩
    ·obtain ⟨j,o,hj,ho,hdo⟩:=hrd' _ _ h
     rw [hAA j o t c hj ho (hgd1 j hj) hdo h hn]
    ·rw [hB t c h1 h hn]
 have:=Qxo (Q:=fun e a' w' => ∃ s',Q e s'∧Rel E s' a' w') hone hA hMs' hMn hdist hrd' hedge htail hml hseq hfin m (Array.replicate l.length false) a _ (by simp) (fun j _=>hgd0 _ j) hcnt hstart
 rw [show l.length - m+m=l.length by omega] at this
 simpa using this
inductive MWs (E:Env) (ops:Array Oper) (msk sl:List (Nat×AV)) (Ms:List Nat) : List Oper→List (Nat×AV)→Rts→(List (Nat×Option Qae)×List Nat)→Prop
 | nil (X:List (Nat×Option Qae)×List Nat) : MWs E ops msk sl Ms [] [] [X] X
 | val {hd:List Oper} {done:List (Nat×AV)} {R:Rts} {X:List (Nat×Option Qae)×List Nat} {o:Oper} {d:Nat} {r:AV}:MWs E ops msk sl Ms hd done R X→o.dst=some d→Ms.contains hd.length=false→STo E ops o (Qc6 ops.toList done o++(msk++sl)) X X d r→MWs E ops msk sl Ms (hd++[o]) ((d,r) :: done) R X
 | mem {hd:List Oper} {done:List (Nat×AV)} {R:Rts} {X Y:List (Nat×Option Qae)×List Nat} {o:Oper} {d:Nat} {r:AV}:MWs E ops msk sl Ms hd done R X→o.dst=some d→Ms.contains hd.length=true→STo E ops o (Qc6 ops.toList done o++(msk++sl)) X Y d r→MWs E ops msk sl Ms (hd++[o]) ((d,r) :: done) (R++[Y]) Y
def cTx (Ms:List Nat) (i:Nat) : Nat:=Ms.countP (fun k=>decide (k<i))
theorem Qur {Ms:List Nat} (hn:Ms.Nodup) (i:Nat) : cTx Ms (i+1)=cTx Ms i+dM Ms i:=by
 induction Ms with
 | nil=>simp [cTx,dM]
 | cons k Ms ih =>
  obtain ⟨h1,h2⟩:=List.nodup_cons.1 hn
  have ih:=ih h2
  unfold cTx dM at ih ⊢
  rw [List.countP_cons,List.countP_cons,ih,List.contains_cons]
  by_cases hk:k=i
  ·subst hk
   simp [h1]
  ·have:(i == k)=false:=by simp;exact fun e=>hk e.symm
   rw [this,Bool.false_or]
   by_cases hlt:k<i
   ·simp [hlt,show k<i+1 by omega];omega
   ·simp [hlt,show ¬ k<i+1 by omega]
theorem Qym {R:Rts} {Y:List (Nat×Option Qae)×List Nat} {c:Nat} (h:c<R.length) : rts (R++[Y]) c=rts R c:=by
 unfold rts;rw [List.getElem?_append_left h]
theorem Xeh {E:Env} {ops:Array Oper} {msk sl:List (Nat×AV)} {Ms:List Nat} (hn:Ms.Nodup) {hd:List Oper} {rd:List (Nat×AV)} {R:Rts} {X:List (Nat×Option Qae)×List Nat} (h:MWs E ops msk sl Ms hd rd R X) :
  R.length=cTx Ms hd.length+1∧rts R (cTx Ms hd.length)=X∧rd.map (·.1)=(hd.filterMap (·.dst)).reverse∧(∀ (i:Nat) (o:Oper),hd[i]? = some o→∃ d r,∃ done:List (Nat×AV),o.dst=some d∧(d,r)∈rd∧(∀ x∈done,x∈rd)∧STo E ops o (Qc6 ops.toList done o++(msk++sl)) (rts R (cTx Ms i)) (rts R (cTx Ms i+dM Ms i)) d r):=by
 have c0:cTx Ms 0=0:=by unfold cTx;rw [List.countP_eq_zero];simp
 have mono : ∀ {i j:Nat},i≤j→cTx Ms i≤cTx Ms j:=fun {i j} hij=>Qnx (fun k _ hk=>by simp at hk ⊢; omega)
 induction h with
 | nil X=>exact ⟨by simp [c0],by simp [c0,rts],rfl,fun i o h=>by simp at h⟩
 | @val hd done R X o d r h hdst hM hv ih =>
  obtain ⟨h0,h0',h1,h2⟩:=ih
  have hd0:dM Ms hd.length=0:=by unfold dM;rw [hM];rfl
  have hl:cTx Ms (hd++[o]).length=cTx Ms hd.length:=by rw [List.length_append,List.length_singleton,Qur hn,hd0];rfl
  refine ⟨by rw [hl];exact h0,by rw [hl];exact h0',by simp [hdst,h1],?_⟩
  intro i o' hi
  rw [List.getElem?_append] at hi
  split at hi
  ·obtain ⟨d',r',done',e1,e2,e3,e4⟩:=h2 i o' hi
   exact ⟨d',r',done',e1,List.mem_cons_of_mem _ e2,fun x hx=>List.mem_cons_of_mem _ (e3 x hx),e4⟩
  ·rename_i hlt
   have hii:i=hd.length:=by
    rcases Nat.eq_zero_or_pos (i - hd.length) with h | h
    ·omega
    ·rw [List.getElem?_eq_none (by simp;omega)] at hi;cases hi
   subst hii
   have:o'=o:=by simpa using hi.symm
   subst this
   refine ⟨d,r,done,hdst,List.mem_cons_self,fun x hx=>List.mem_cons_of_mem _ hx,?_⟩
   rw [hd0,Nat.add_zero,h0'];exact hv
 | @mem hd done R X Y o d r h hdst hM hv ih =>
  obtain ⟨h0,h0',h1,h2⟩:=ih
  have hd0:dM Ms hd.length=1:=by unfold dM;rw [hM];rfl
  have hl:cTx Ms (hd++[o]).length=cTx Ms hd.length+1:=by rw [List.length_append,List.length_singleton,Qur hn,hd0]
  refine ⟨by rw [hl,List.length_append,h0];rfl,?_,by simp [hdst,h1],?_⟩
  ·rw [hl,← h0];unfold rts;rw [List.getElem?_append_right (Nat.le_refl _)];simp
  intro i o' hi
  rw [List.getElem?_append] at hi
  split at hi
  ·rename_i hlt
   obtain ⟨d',r',done',e1,e2,e3,e4⟩:=h2 i o' hi
   refine ⟨d',r',done',e1,List.mem_cons_of_mem _ e2,fun x hx=>List.mem_cons_of_mem _ (e3 x hx),?_⟩
   have hb:cTx Ms i+dM Ms i≤cTx Ms hd.length:=by rw [← Qur hn];exact mono (by omega)
   rw [Qym (by omega),Qym (by omega)];exact e4
  ·rename_i hlt
   have hii:i=hd.length:=by
    rcases Nat.eq_zero_or_pos (i - hd.length) with h | h
    ·omega
    ·rw [List.getElem?_eq_none (by simp;omega)] at hi;cases hi
   subst hii
   have:o'=o:=by simpa using hi.symm
   subst this
   refine ⟨d,r,done,hdst,List.mem_cons_self,fun x hx=>List.mem_cons_of_mem _ hx,?_⟩
   rw [hd0,Qym (by omega),h0',← h0]
   have:rts (R++[Y]) R.length=Y:=by unfold rts;rw [List.getElem?_append_right (Nat.le_refl _)];simp
   rw [this];exact hv
theorem Xfr {E:Env} {ops:Array Oper} {o:Oper} {sl sl':List (Nat×AV)} {X Y:List (Nat×Option Qae)×List Nat} {d:Nat} {r:AV} (h:STo E ops o sl X Y d r) (hle:Qrx sl sl') : STo E ops o sl' X Y d r:=
 fun sl2 h2=>h sl2 (fun t c ht hn=>h2 t c (hle t c ht hn) hn)
theorem Xiw {l:List Oper} {m:Nat} {rd done:List (Nat×AV)} {sl:List (Nat×AV)} (hnd:(rd.map (·.1)).Nodup) (hs : ∀ x∈done,x∈rd) (o:Oper) (he : ∀ j∈Qbn o,j<m) : Qrx (Qc6 l done o++(Qfx (l.take m)++sl)) (Qc6 l rd o++(Qfx (l.take m)++sl)):=by
  have he0:=he
  intro t c ht' hn
  rcases Qau _ _ _ _ ht' with h | ⟨h0,h⟩
  · have hm:=Qb6 h
    have:(t,c)∈Qc6 l rd o:=by
      simp only [Qc6,List.mem_filterMap] at hm ⊢
      obtain ⟨e,he,hm⟩:=hm
      refine ⟨e,he,?_⟩
      split at hm
      case isFalse=>cases hm
      rename_i hb
      rw [if_pos hb]
      obtain ⟨d',hd',hm⟩:=Option.bind_eq_some_iff.1 hm
      obtain ⟨r',hr',hm⟩:=Option.map_eq_some_iff.1 hm
      cases hm
      rw [hd',Option.bind_some,Qgr hnd (hs _ (Qb6 hr'))]
      rfl
    obtain ⟨c',hc'⟩:=Qe4 this
    have hc2:=Qb6 hc'
    simp only [Qc6,List.mem_filterMap] at hc2 this
    have key : ∀ c,(∃ e∈o.after.toList,(if Region.binds .any e=true then ((l[e.on]?).bind (·.dst)).bind fun d=>(rd.lookup d).map fun r=>(d,r) else none)=some (t,c))→rd.lookup t=some c:=by
      rintro c ⟨e,he,hm⟩
      split at hm
      case isFalse=>cases hm
      obtain ⟨d',hd',hm⟩:=Option.bind_eq_some_iff.1 hm
      obtain ⟨r',hr',hm⟩:=Option.map_eq_some_iff.1 hm
      cases hm;exact hr'
    have k1:=key c this
    have k2:=key c' hc2
    rw [k1] at k2;cases k2
    show ((Qc6 l rd o)++(Qfx (l.take m)++sl)).lookup t=some c
    rw [List.lookup_append,hc'];rfl
  · rcases Qau _ _ _ _ h with h | ⟨h1,h⟩
    · have hm:=Qb6 h
      simp only [Qfx,List.mem_filterMap] at hm
      obtain ⟨_,_,hm⟩:=hm
      obtain ⟨_,_,hm⟩:=Option.map_eq_some_iff.1 hm
      cases hm;cases hn
    · have hp:(Qc6 l rd o).lookup t=none:=by
        cases hl:(Qc6 l rd o).lookup t with
        | none=>rfl
        | some c' =>
          have hm:=Qb6 hl
          simp only [Qc6,List.mem_filterMap] at hm
          obtain ⟨e,he,hm⟩:=hm
          split at hm
          case isFalse=>cases hm
          obtain ⟨d',hd',hm⟩:=Option.bind_eq_some_iff.1 hm
          obtain ⟨oj,hoj,hdj⟩:=Option.bind_eq_some_iff.1 hd'
          obtain ⟨r',hr',hm⟩:=Option.map_eq_some_iff.1 hm
          cases hm
          have hem:e.on<m:=he0 _ (by
            simp only [Qbn,List.mem_filterMap]
            exact ⟨e,he,by rw [if_pos (by assumption)]⟩)
          have:(t,AV.dead)∈Qfx (l.take m):=by
            simp only [Qfx,List.mem_filterMap]
            exact ⟨oj,List.mem_of_getElem? (show (l.take m)[e.on]? = some oj by rw [List.getElem?_take,if_pos hem];exact hoj),by rw [hdj];rfl⟩
          obtain ⟨c',hc'⟩:=Qe4 this
          rw [h1] at hc';cases hc'
      rw [List.lookup_append,hp,Option.none_or,List.lookup_append,h1,Option.none_or]
      exact h
def Quf (m:Nat) (Ms:List Nat) (A:List (List Nat)) : List (Nat×Nat):=(List.range m).flatMap fun i=>((List.range (hiM Ms A i+1)).filter fun c=>decide (loM Ms A i≤c) && c != cTx Ms i).map fun c=>(i,c)
theorem Xj0 {E:Env} {ops:Array Oper} {sl:List (Nat×AV)} {m:Nat} {Ms:List Nat} {A:List (List Nat)} {R:Rts} {rd:List (Nat×AV)} {X:List (Nat×Option Qae)×List Nat} (hn:Ms.Nodup) (hnd:((ops.toList.take m).filterMap (·.dst)).Nodup) (h:MWs E ops (Qfx (ops.toList.take m)) sl Ms (ops.toList.take m) rd R X) (hedge : ∀ i o,i<m→ops.toList[i]? = some o→∀ j∈Qbn o,j<i)
  (hx : ∀ p∈Quf m Ms A,Ms.contains p.1=false∧∀ o,ops.toList[p.1]? = some o→∃ d r,o.dst=some d∧rd.lookup d=some r∧STo E ops o (Qc6 ops.toList rd o++(Qfx (ops.toList.take m)++sl)) (rts R p.2) (rts R p.2) d r) :
  MOne E ops.toList m sl R Ms A rd:=by
 obtain ⟨f1,f2,f3,f4⟩:=Xeh hn h
 have hnd2:(rd.map (·.1)).Nodup:=by rw [f3];exact (List.reverse_perm _).nodup_iff.2 hnd
 intro i o hi ho
 obtain ⟨d,r,done,e1,e2,e3,e4⟩:=f4 i o (by rw [List.getElem?_take,if_pos hi];exact ho)
 have hlk:=Qgr hnd2 e2
 refine ⟨d,r,e1,hlk,fun c c1 c2=>?_⟩
 by_cases hc:c=cTx Ms i
 ·subst hc;exact Xfr e4 (Xiw hnd2 e3 o (fun j hj=>Nat.lt_trans (hedge i o hi ho j hj) hi))
 ·have hmem:(i,c)∈Quf m Ms A:=by
   simp only [Quf,List.mem_flatMap,List.mem_range,List.mem_map,List.mem_filter,Bool.and_eq_true,decide_eq_true_eq,bne_iff_ne,ne_eq]
   exact ⟨i,hi,c,⟨by omega,c1,hc⟩,rfl⟩
  obtain ⟨g1,g2⟩:=hx _ hmem
  obtain ⟨d',r',k1,k2,k3⟩:=g2 o ho
  rw [e1] at k1;cases k1
  rw [hlk] at k2;cases k2
  have:dM Ms i=0:=by unfold dM;rw [g1];rfl
  rw [this,Nat.add_zero];exact k3
end Go.T
