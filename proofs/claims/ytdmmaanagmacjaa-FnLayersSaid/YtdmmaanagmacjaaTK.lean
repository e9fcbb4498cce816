/- Lemmas for FnLayers; no condition. -/

import Derived.Test.YtdmmaanagmacjaaTG
import Derived.Shelf.Abstract
import Derived.Deep.LoopGhost
set_option linter.unusedVariables false
namespace Go.T
open Go Go.RowKit Go.Proofs
def Qab (P:Program) (f:FuncId) (args:List AV) (res:AV) : Prop:=
 Enters P f∧∀ (w:World) (S:Nat→Prop) (vals:List Value),Qfm w S args vals []→(∀ b,S b→b<w.heap.size) →
  Calls P f vals.toArray w (fun e w' => ∃ v fp,e = .returned v∧Below w.heap.size w w'∧w.drawn≤w'.drawn∧rep w' (fun b=>(S b∨w.heap.size≤b)∧b<w'.heap.size∧b ∉ fp) res v fp∧fp.Nodup∧∀ b∈fp,w.heap.size≤b)
mutual
def out (s:St) : AV→Option AV
 | .lit v=>some (.lit v)
 | .ro sz xs=>some (.ro sz xs)
 | .rop cs o=>some (.rop cs o)
 | .sl i off len=>match s.root i with
  | some R=>if Qa1 ((R.xs.drop off).take len) then some (.ro R.sz (Qnk ((R.xs.drop off).take len))) else none
  | none=>none
 | .ptr i e o=>match s.root i with
  | some R=>match R.xs[e]? with
   | some x=>if Qeq x then some (.rop (Qnh x) o) else none
   | none=>none
  | none=>none
 | .agg cs=>match Qvs s cs with
  | some ds=>some (.agg ds)
  | none=>none
 | .fn g cs=>match Qvs s cs with
  | some ds=>some (.fn g ds)
  | none=>none
 | _=>none
def Qvs (s:St) : List AV→Option (List AV)
 | []=>some []
 | c :: cs=>match out s c,Qvs s cs with
  | some d,some ds=>some (d :: ds)
  | _,_=>none
end
theorem Qu5 {E:Env} {s:St} {a:Act} {w:World} {χ:Nat→Option Nat} {hd:Nat→Value} (h:Qci E s a w χ hd) {i off len:Nat} {R:Qae} (hR:s.root i=some R) {u:Value} (hle:off+len≤R.xs.length) (hu:Xgd (hd i) R.sz off len u) :
  ∃ A cap vs f,u = .slice A len cap∧len≤cap∧Qao w (Qbg χ w) (· ∈ s.us) (tab s hd) R.sz ((R.xs.drop off).take len) vs f∧(∀ b∈f,χ b=some i)∧(0<len→∃ b,A=some ⟨b,off * R.sz,none⟩∧At w b (off * R.sz) vs∧χ b=some i):=by
 obtain ⟨A,cap,rfl,hcap,_,hA⟩:=hu
 obtain ⟨_,fp,⟨hz,vs,fp',hown,hrep,rfl⟩,_,hcol⟩:=h.rts i R hR
 have e1:R.xs=R.xs.take off++((R.xs.drop off).take len++(R.xs.drop off).drop len):=by rw [List.take_append_drop,List.take_append_drop]
 have hrep':=hrep
 rw [e1] at hrep'
 obtain ⟨v1,v2,f1,f2,rfl,rfl,hl1,k1,k2⟩:=Qe6 _ _ _ _ hrep'
 obtain ⟨v3,v4,f3,f4,rfl,rfl,hl3,k3,k4⟩:=Qe6 _ _ _ _ k2
 refine ⟨A,cap,v3,f3,rfl,hcap,k3,fun b hb=>hcol b (by simp [hb]),fun hp=>?_⟩
 obtain ⟨b,m,c,hh,rfl⟩:=hA hp
 refine ⟨b,rfl,?_,hcol b (by rw [hh];simp [Value.ownBlock])⟩
 intro j v hj
 have hat:=Qhe hown (b:=b) (by rw [hh];rfl)
 have hjl:j<v3.length:=(List.getElem?_eq_some_iff.1 hj).1
 rw [List.length_take,Nat.min_eq_left (by omega)] at hl1
 have:=hat (off * R.sz+j) v (by rw [List.getElem?_append_right (by omega),show off * R.sz+j - v1.length=j by omega,List.getElem?_append_left hjl];exact hj)
 simpa using this
theorem Qpu {χ:Nat→Option Nat} {w:World} : ∀ b,Qbg χ w b→b<w.heap.size:=fun b h=>h.2
mutual
theorem Qr9 {E:Env} {s:St} {a:Act} {w:World} {χ:Nat→Option Nat} {hd:Nat→Value} (h:Qci E s a w χ hd) : ∀ (x y:AV) (u:Value) (f:List Nat),repR w (Qbg χ w) (· ∈ s.us) (tab s hd) x u f→f=[]→out s x=some y→rep w (fun b=>b<w.heap.size) y u []
 | .lit v,y,u,f,hr,hf,he=>by simp only [out] at he;cases he;simp only [repR] at hr;subst hf;exact Qbl _ _ _ hr Qpu (fun _ _=>rfl) (by simp)
 | .ro sz xs,y,u,f,hr,hf,he=>by simp only [out] at he;cases he;simp only [repR] at hr;subst hf;exact Qbl _ _ _ hr Qpu (fun _ _=>rfl) (by simp)
 | .rop cs o,y,u,f,hr,hf,he=>by simp only [out] at he;cases he;simp only [repR] at hr;subst hf;exact Qbl _ _ _ hr Qpu (fun _ _=>rfl) (by simp)
 | .sl i off len,y,u,f,hr,hf,he=>by
  simp only [out] at he
  split at he
  case h_2=>cases he
  rename_i R hR
  split at he
  case isFalse=>cases he
  rename_i ht
  cases he
  simp only [repR] at hr
  obtain ⟨_,_,hr⟩:=hr
  obtain ⟨hle,hu,_⟩:=hr (hd i) R.xs.length R.sz (by simp [tab,hR])
  obtain ⟨A,cap,vs,g,rfl,hcap,hrr,hg,hA⟩:=Qu5 h hR hle hu
  have hlen:((R.xs.drop off).take len).length=len:=by rw [List.length_take,List.length_drop];omega
  have hz:=Qnr (S2:=fun b=>b<w.heap.size) _ _ _ _ (Qey _ _ _ hrr ht) Qpu (fun b hb=>(h.col b i (hg b hb)).2)
  simp only [rep]
  refine ⟨trivial,A,cap,by rw [Qfs,hlen],by rw [Qfs,hlen];exact hcap,?_⟩
  by_cases hl:len=0
  ·left;exact Qx0 (by rw [hl,List.take_zero])
  ·obtain ⟨b,rfl,hat,hcb⟩:=hA (by omega)
   exact .inr ⟨b,_,vs,rfl,(h.col b i hcb).2,hat,hz⟩
 | .ptr i e o,y,u,f,hr,hf,he=>by
  simp only [out] at he
  split at he
  case h_2=>cases he
  rename_i R hR
  split at he
  case h_2=>cases he
  rename_i x hx
  split at he
  case isFalse=>cases he
  rename_i ht
  cases he
  simp only [repR] at hr
  obtain ⟨_,_,hr⟩:=hr
  obtain ⟨hlt,b,m,c,hh,rfl⟩:=hr (hd i) R.xs.length R.sz (by simp [tab,hR])
  obtain ⟨_,fp,⟨hz,vs,fp',hown,hrep,rfl⟩,_,hcol⟩:=h.rts i R hR
  obtain ⟨v1,us,v2,f1,fe,f2,rfl,rfl,hl1,hlus,h1c,k1,kx,k2⟩:=Qg8 hrep hx
  have hat:=Qhe hown (b:=b) (by rw [hh];rfl)
  have hz:=Qki (S2:=fun b=>b<w.heap.size) _ _ _ (Qe8 _ _ _ kx ht) Qpu (fun b hb=>(h.col b i (hcol b (by simp [hb]))).2)
  simp only [rep]
  refine ⟨trivial,b,e * R.sz,us,rfl,(h.col b i (hcol b (by rw [hh];simp [Value.ownBlock]))).2,?_,hz⟩
  intro k v hk
  have hkl:k<us.length:=(List.getElem?_eq_some_iff.1 hk).1
  have:=hat (e * R.sz+k) v (by rw [List.append_assoc,List.getElem?_append_right (by omega),show e * R.sz+k - v1.length=k by omega,List.getElem?_append_left hkl];exact hk)
  simpa using this
 | .agg cs,y,u,f,hr,hf,he=>by
  simp only [out] at he
  split at he
  case h_2=>cases he
  rename_i ds hds
  cases he
  simp only [repR] at hr
  obtain ⟨vs,rfl,hr⟩:=hr
  simp only [rep]
  exact ⟨vs,rfl,Qm1 h cs ds vs f hr hf hds⟩
 | .fn g cs,y,u,f,hr,hf,he=>by
  simp only [out] at he
  split at he
  case h_2=>cases he
  rename_i ds hds
  cases he
  simp only [repR] at hr
  obtain ⟨vs,rfl,hr⟩:=hr
  simp only [rep]
  exact ⟨vs,rfl,Qm1 h cs ds vs f hr hf hds⟩
 | .dead,y,u,f,hr,hf,he=>by simp [out] at he
 | .own _ _ _,y,u,f,hr,hf,he=>by simp [out] at he
 | .tup _,y,u,f,hr,hf,he=>by simp [out] at he
theorem Qm1 {E:Env} {s:St} {a:Act} {w:World} {χ:Nat→Option Nat} {hd:Nat→Value} (h:Qci E s a w χ hd) : ∀ (xs ys:List AV) (us:List Value) (f:List Nat),Qah w (Qbg χ w) (· ∈ s.us) (tab s hd) xs us f→f=[]→Qvs s xs=some ys→Qfm w (fun b=>b<w.heap.size) ys us []
 | [],ys,us,f,hr,hf,he=>by simp only [Qvs] at he;cases he;simp only [Qah] at hr;simp only [Qfm];exact ⟨hr.1,trivial⟩
 | c :: cs,ys,us,f,hr,hf,he=>by
  simp only [Qvs] at he
  split at he
  case h_2=>cases he
  rename_i d ds h1 h2
  cases he
  simp only [Qah] at hr
  obtain ⟨u,us',f1,f2,rfl,hf',k1,k2⟩:=hr
  rw [hf] at hf'
  obtain ⟨e1,e2⟩:=List.append_eq_nil_iff.1 hf'.symm
  simp only [Qfm]
  exact ⟨u,us',[],[],rfl,rfl,Qr9 h c d u f1 k1 e1 h1,Qm1 h cs ds us' f2 k2 e2 h2⟩
end
mutual
def rtf:AV→List Nat→AV×List (Nat×Qae)×List Nat
 | .own T sz xs,i :: ids=>if 0<sz then (.sl i 0 xs.length,[(i,⟨T,sz,xs⟩)],ids) else (.dead,[],i :: ids)
 | .own _ _ _,[]=>(.dead,[],[])
 | .agg cs,ids=>(.agg (Qn0 cs ids).1,(Qn0 cs ids).2.1,(Qn0 cs ids).2.2)
 | .tup cs,ids=>(.tup (Qn0 cs ids).1,(Qn0 cs ids).2.1,(Qn0 cs ids).2.2)
 | .fn _ _,ids=>(.dead,[],ids)
 | a,ids=>(a,[],ids)
def Qn0:List AV→List Nat→List AV×List (Nat×Qae)×List Nat
 | [],ids=>([],[],ids)
 | c :: cs,ids=>((rtf c ids).1 :: (Qn0 cs (rtf c ids).2.2).1,(rtf c ids).2.1++(Qn0 cs (rtf c ids).2.2).2.1,(Qn0 cs (rtf c ids).2.2).2.2)
end
def St.addL (s:St) : List (Nat×Qae)→St
 | []=>s
 | (i,R) :: r=>(s.add i R).addL r
theorem St.addL_append (s:St) : ∀ (l r:List (Nat×Qae)),s.addL (l++r)=(s.addL l).addL r:=by
 intro l
 induction l generalizing s with
 | nil=>intro r;rfl
 | cons x l ih=>intro r;exact ih _ r
structure Qkx (E:Env) (s s':St) (a:Act) (w:World) (χ χ':Nat→Option Nat) (hd hd':Nat→Value) (f:List Nat) : Prop where
 rel:Qci E s' a w χ' hd'
 fr : ∀ b,Qbg χ w b↔Qbg χ' w b
 other : ∀ b,b ∉ f→χ' b=χ b
 us : ∀ i,i∈s.us→i∈s'.us
 tb : ∀ i,i∈s.us→tab s' hd' i=tab s hd i
theorem Qkx.refl {E:Env} {s:St} {a:Act} {w:World} {χ:Nat→Option Nat} {hd:Nat→Value} (h:Qci E s a w χ hd) : Qkx E s s a w χ χ hd hd []:=⟨h,fun _=>Iff.rfl,fun _ _=>rfl,fun _ h=>h,fun _ _=>rfl⟩
theorem Qkx.repR {E:Env} {s s':St} {a:Act} {w:World} {χ χ':Nat→Option Nat} {hd hd':Nat→Value} {f:List Nat} (h:Qkx E s s' a w χ χ' hd hd' f) {x:AV} {u:Value} {g:List Nat} (hx:repR w (Qbg χ w) (· ∈ s.us) (tab s hd) x u g) : repR w (Qbg χ' w) (· ∈ s'.us) (tab s' hd') x u g:=
 Qcd _ _ _ hx (fun b hb=>(h.fr b).1 hb) (fun _ _=>rfl) (fun _ _=>rfl) h.us (fun i hi x hx=>by rwa [h.tb i hi] at hx)
mutual
theorem Qnu {E:Env} {a:Act} {w:World} {κ:Nat} : ∀ (x:AV) (u:Value) (f ids:List Nat) (s:St) (χ:Nat→Option Nat) (hd:Nat→Value),Qci E s a w χ hd→rep w (Qbg χ w) x u f→f.Nodup→(∀ b∈f,χ b=some κ)→(∀ b∈f,E.w0.heap.size≤b)→(∀ b∈f,¬ E.Jk b)→(∀ R i,s.root i=some R→i≠κ)→ids.Nodup→(∀ i∈ids,i ∉ s.us∧i≠κ) →
  ∃ χ' hd',Qkx E s (s.addL (rtf x ids).2.1) a w χ χ' hd hd' f∧repR w (Qbg χ' w) (· ∈ (s.addL (rtf x ids).2.1).us) (tab (s.addL (rtf x ids).2.1) hd') (rtf x ids).1 u []∧(rtf x ids).2.2.Nodup∧(∀ i∈(rtf x ids).2.2,i ∉ (s.addL (rtf x ids).2.1).us∧i≠κ)∧(∀ R i,(s.addL (rtf x ids).2.1).root i=some R→i≠κ)
 | .own T sz xs,u,f,i :: ids,s,χ,hd,h,hr,hn,hc,hw,hJ,hk,hin,hi=>by
  by_cases hz : 0<sz
  ·simp only [rtf,hz,if_true,St.addL]
   simp only [rep] at hr
   obtain ⟨vs,f',ho,hr,rfl⟩:=hr
   obtain ⟨hi1,hi2⟩:=hi i List.mem_cons_self
   let ff:=u.ownBlock.toList++f'
   let χ':Nat→Option Nat:=fun b=>if b∈ff then some i else χ b
   have hiJ:i≠JJ:=by rintro rfl;exact hi1 h.jj
   have hfr : ∀ b,Qbg χ w b↔Qbg χ' w b:=by
    intro b
    have : χ' b=none↔χ b=none:=by
     simp only [χ']
     split
     ·rename_i hm;rw [hc b hm];simp
     ·rfl
    exact ⟨fun hb=>⟨this.2 hb.1,hb.2⟩,fun hb=>⟨this.1 hb.1,hb.2⟩⟩
   have h1:Qci E s a w χ' hd:=by
    refine ⟨h.defers,h.size,h.os,h.tape,h.output,h.hsz,h.frame,h.fx,h.jj,h.rj,?_,?_,?_,?_⟩
    ·intro b hb
     have:b ∉ ff:=fun hm=>hJ b hm hb
     simp only [χ',this,if_false];exact h.jk b hb
    ·intro b r hbr
     simp only [χ'] at hbr
     split at hbr
     ·rename_i hm
      exact ⟨fun _=>.inl (hw b hm),(h.col b κ (hc b hm)).2⟩
     ·exact h.col b r hbr
    ·intro j Q hQ
     obtain ⟨q1,fq,q2,q3,q4⟩:=h.rts j Q hQ
     refine ⟨q1,fq,q2.mono (fun b hb=>(hfr b).1 hb) (fun _ _=>rfl) (fun _ _=>rfl) (fun _ y=>y) (fun _ _ _ y=>y),q3,fun b hb=>?_⟩
     have hbj:=q4 b hb
     have:b ∉ ff:=fun hm=>by have:=hc b hm;rw [hbj] at this;cases this;exact hk Q κ hQ rfl
     simp only [χ',this,if_false];exact hbj
    ·intro t
     exact Qcd _ _ _ (h.slots t) (fun b hb=>(hfr b).1 hb) (fun _ _=>rfl) (fun _ _=>rfl) (fun _ y=>y) (fun _ _ _ y=>y)
   have h2:=h1.addRoot hi1 (R:=⟨T,sz,xs⟩) (v:=u) (fp:=ff) ⟨hz,vs,f',ho,Qi1 _ _ _ (Qex _ _ _ _ hr (fun b hb=>(hfr b).1 hb) (fun _ _=>rfl) (fun _ _=>rfl)),rfl⟩ hn (fun b hb=>by simp only [χ',hb,if_true])
   refine ⟨χ',_,⟨h2,hfr,fun b hb=>by simp only [χ',show b ∉ ff from hb,if_false],fun j hj=>List.mem_cons_of_mem _ hj,fun j hj=>?_⟩,?_,(List.nodup_cons.1 hin).2,?_,?_⟩
   ·have hne:j≠i:=fun e=>hi1 (e ▸ hj)
    simp [tab,St.root_add_ne s hne,hne]
   ·simp only [repR]
    refine ⟨trivial,List.mem_cons_self,?_⟩
    intro h' n' sz' hh
    simp [tab,St.root_add_same] at hh
    obtain ⟨rfl,rfl,rfl⟩:=hh
    exact ⟨by omega,Qjz ho,Qj2 ho⟩
   ·intro j hj
    obtain ⟨j1,j2⟩:=hi j (List.mem_cons_of_mem _ hj)
    refine ⟨?_,j2⟩
    show j ∉ i :: s.us
    rw [List.mem_cons]
    rintro (rfl | hm)
    ·exact (List.nodup_cons.1 hin).1 hj
    ·exact j1 hm
   ·intro R j hR
    by_cases hj:j=i
    ·subst hj;exact hi2
    ·rw [St.root_add_ne s hj] at hR;exact hk R j hR
  ·simp only [rtf,hz,if_false,St.addL]
   exact ⟨χ,hd,⟨h,fun _=>Iff.rfl,fun _ _=>rfl,fun _ y=>y,fun _ _=>rfl⟩,Qdk u,hin,hi,hk⟩
 | .own _ _ _,u,f,[],s,χ,hd,h,hr,hn,hc,hw,hJ,hk,hin,hi=>by
  simp only [rtf,St.addL]
  exact ⟨χ,hd,⟨h,fun _=>Iff.rfl,fun _ _=>rfl,fun _ y=>y,fun _ _=>rfl⟩,Qdk u,hin,hi,hk⟩
 | .agg cs,u,f,ids,s,χ,hd,h,hr,hn,hc,hw,hJ,hk,hin,hi=>by
  simp only [rtf]
  simp only [rep] at hr
  obtain ⟨vs,rfl,hr⟩:=hr
  obtain ⟨χ',hd',h1,h2,h3,h4,h5⟩:=Qpm cs vs f ids s χ hd h hr hn hc hw hJ hk hin hi
  exact ⟨χ',hd',h1,by simp only [repR];exact ⟨vs,rfl,h2⟩,h3,h4,h5⟩
 | .tup cs,u,f,ids,s,χ,hd,h,hr,hn,hc,hw,hJ,hk,hin,hi=>by
  simp only [rtf]
  simp only [rep] at hr
  obtain ⟨vs,rfl,hr⟩:=hr
  obtain ⟨χ',hd',h1,h2,h3,h4,h5⟩:=Qpm cs vs f ids s χ hd h hr hn hc hw hJ hk hin hi
  exact ⟨χ',hd',h1,by simp only [repR];exact ⟨vs,rfl,h2⟩,h3,h4,h5⟩
 | .fn _ _,u,f,ids,s,χ,hd,h,hr,hn,hc,hw,hJ,hk,hin,hi=>by
  simp only [rtf,St.addL]
  exact ⟨χ,hd,⟨h,fun _=>Iff.rfl,fun _ _=>rfl,fun _ y=>y,fun _ _=>rfl⟩,Qdk u,hin,hi,hk⟩
 | .dead,u,f,ids,s,χ,hd,h,hr,hn,hc,hw,hJ,hk,hin,hi=>by
  simp only [rtf,St.addL]
  exact ⟨χ,hd,⟨h,fun _=>Iff.rfl,fun _ _=>rfl,fun _ y=>y,fun _ _=>rfl⟩,Qdk u,hin,hi,hk⟩
 | .lit v,u,f,ids,s,χ,hd,h,hr,hn,hc,hw,hJ,hk,hin,hi=>by
  simp only [rtf,St.addL]
  have hf:f=[]:=by simp only [rep] at hr;exact hr.1
  subst hf
  exact ⟨χ,hd,Qkx.refl h,Qr2 _ _ _ hr,hin,hi,hk⟩
 | .ro sz xs,u,f,ids,s,χ,hd,h,hr,hn,hc,hw,hJ,hk,hin,hi=>by
  simp only [rtf,St.addL]
  have hf:f=[]:=by simp only [rep] at hr;exact hr.1
  subst hf
  exact ⟨χ,hd,Qkx.refl h,Qr2 _ _ _ hr,hin,hi,hk⟩
 | .rop cs o,u,f,ids,s,χ,hd,h,hr,hn,hc,hw,hJ,hk,hin,hi=>by
  simp only [rtf,St.addL]
  have hf:f=[]:=by simp only [rep] at hr;exact hr.1
  subst hf
  exact ⟨χ,hd,Qkx.refl h,Qr2 _ _ _ hr,hin,hi,hk⟩
 | .sl _ _ _,u,f,ids,s,χ,hd,h,hr,hn,hc,hw,hJ,hk,hin,hi=>by simp only [rep] at hr
 | .ptr _ _ _,u,f,ids,s,χ,hd,h,hr,hn,hc,hw,hJ,hk,hin,hi=>by simp only [rep] at hr
theorem Qpm {E:Env} {a:Act} {w:World} {κ:Nat} : ∀ (xs:List AV) (us:List Value) (f ids:List Nat) (s:St) (χ:Nat→Option Nat) (hd:Nat→Value),Qci E s a w χ hd→Qfm w (Qbg χ w) xs us f→f.Nodup→(∀ b∈f,χ b=some κ)→(∀ b∈f,E.w0.heap.size≤b)→(∀ b∈f,¬ E.Jk b)→(∀ R i,s.root i=some R→i≠κ)→ids.Nodup→(∀ i∈ids,i ∉ s.us∧i≠κ) →
  ∃ χ' hd',Qkx E s (s.addL (Qn0 xs ids).2.1) a w χ χ' hd hd' f∧Qah w (Qbg χ' w) (· ∈ (s.addL (Qn0 xs ids).2.1).us) (tab (s.addL (Qn0 xs ids).2.1) hd') (Qn0 xs ids).1 us []∧(Qn0 xs ids).2.2.Nodup∧(∀ i∈(Qn0 xs ids).2.2,i ∉ (s.addL (Qn0 xs ids).2.1).us∧i≠κ)∧(∀ R i,(s.addL (Qn0 xs ids).2.1).root i=some R→i≠κ)
 | [],us,f,ids,s,χ,hd,h,hr,hn,hc,hw,hJ,hk,hin,hi=>by
  simp only [Qfm] at hr
  obtain ⟨rfl,rfl⟩:=hr
  simp only [Qn0,St.addL]
  exact ⟨χ,hd,Qkx.refl h,by simp [Qah],hin,hi,hk⟩
 | x :: xs,us,f,ids,s,χ,hd,h,hr,hn,hc,hw,hJ,hk,hin,hi=>by
  simp only [Qfm] at hr
  obtain ⟨u,us',f1,f2,rfl,rfl,hr1,hr2⟩:=hr
  rw [List.nodup_append] at hn
  obtain ⟨χ1,hd1,n1,r1,d1,i1,k1⟩:=Qnu x u f1 ids s χ hd h hr1 hn.1 (fun b hb=>hc b (by simp [hb])) (fun b hb=>hw b (by simp [hb])) (fun b hb=>hJ b (by simp [hb])) hk hin hi
  have hr2':Qfm w (Qbg χ1 w) xs us' f2:=Qhf _ _ _ hr2 (fun b hb=>(n1.fr b).1 hb) (fun _ _=>rfl) (fun _ _=>rfl)
  obtain ⟨χ2,hd2,n2,r2,d2,i2,k2⟩:=Qpm xs us' f2 (rtf x ids).2.2 _ χ1 hd1 n1.rel hr2' hn.2.1 (fun b hb=>by rw [n1.other b (fun hb1=>hn.2.2 b hb1 b hb rfl)];exact hc b (by simp [hb])) (fun b hb=>hw b (by simp [hb])) (fun b hb=>hJ b (by simp [hb])) k1 d1 i1
  simp only [Qn0,St.addL_append]
  refine ⟨χ2,hd2,⟨n2.rel,fun b=>(n1.fr b).trans (n2.fr b),fun b hb=>?_,fun j hj=>n2.us j (n1.us j hj),fun j hj=>(n2.tb j (n1.us j hj)).trans (n1.tb j hj)⟩,?_,d2,i2,k2⟩
  ·rw [List.mem_append,not_or] at hb
   rw [n2.other b hb.2,n1.other b hb.1]
  ·simp only [Qah]
   exact ⟨u,us',[],[],rfl,rfl,n2.repR r1,r2⟩
end
theorem Qiq {E:Env} {o:Oper} {s:St} {x:Operand} {f:FuncId} {caps:List AV} {args:Array Operand} {tys:Array TypeId} (ho:o.op = .call ⟨.value x,args,tys⟩) (hx:Qal s x = .fn f caps) (hd:okD E.n o.dst=true) {outs:List AV} (hout:Qvs s (args.toList.map (Qal s)++caps)=some outs) {res:AV} (hm:Qab E.P f outs res) (hro:Qez res=true)
    (ids:List Nat) (hin:ids.Nodup) (hids : ∀ i∈ids,i ∉ s.us) : Qm5 E o s ((s.addL (rtf res ids).2.1).putO o.dst (rtf res ids).1):=by
  rintro a w ⟨χ,hd',h⟩ K Q hk
  obtain ⟨dst,op,type,pos,after,guard⟩:=o
  simp only at ho hd hk
  subst ho
  obtain ⟨hent,hm⟩:=hm
  have hxr:=Qak h x
  rw [hx] at hxr
  simp only [repR] at hxr
  obtain ⟨vs,hxv,hcr⟩:=hxr
  have hargs:=Qm1 h _ _ _ _ (Qdy (Qi0 h args.toList) hcr) rfl hout
  have hc:=hm w (fun b=>b<w.heap.size) _ hargs (fun _ h=>h)
  have hrun:(execOp a.eval ⟨dst,.call ⟨.value x,args,tys⟩,type,pos,after,guard⟩).run E.P w = .ok (.enter f (args.toList.map a.eval++vs).toArray) w:=by
    have e1:(args.toList.map a.eval++vs).toArray=args.map a.eval++vs.toArray:=by
      rw [← Array.toList_map]
      apply Array.ext'
      simp
    simp only [execOp,resolve,hxv,invoke,Deferred.ofValue,Sem.run_bind,Sem.run_pure,Result.andThen_ok]
    simp only [Array.empty_append]
    rw [e1]
    exact hent _ w
  unfold Oper.wp
  rw [hrun]
  show Calls E.P f _ w _
  refine hc.mono ?_
  rintro e w' ⟨v,fp,rfl,hb,hdr,hr,hn,hge⟩
  show K _ _
  -- a colour that nothing has
  obtain ⟨κ,hκ⟩ : ∃ κ:Nat,κ ∉ s.us∧κ ∉ ids∧κ≠JJ:=by
    have : ∃ κ:Nat,∀ x∈s.us++ids++[JJ],x<κ:=by
      generalize s.us++ids++[JJ]=l
      induction l with
      | nil=>exact ⟨0,by simp⟩
      | cons y l ih =>
        obtain ⟨κ,hκ⟩:=ih
        refine ⟨max κ (y+1),?_⟩
        intro x hx
        rcases List.mem_cons.1 hx with rfl | hx
        · omega
        · have:=hκ x hx;omega
    obtain ⟨κ,hκ⟩:=this
    refine ⟨κ,fun hm=>?_,fun hm=>?_,fun hm=>?_⟩
    · have:=hκ κ (by simp [hm]);omega
    · have:=hκ κ (by simp [hm]);omega
    · have:=hκ JJ (by simp);omega
  have hlt:=Qp0 _ _ _ hr
  have h1:=h.grow hb hdr (fun b=>if b∈fp then some κ else none) (fun b r hbr=>by
    split at hbr
    · rename_i hm;exact hlt b hm
    · cases hbr)
  have hr2:=Qqt (S2:=Qbg (fun b=>if b<w.heap.size then χ b else if b∈fp then some κ else none) w') _ _ _ hr hro
  obtain ⟨χ2,hd2,n2,r2,_,_,_⟩:=Qnu (κ:=κ) res v fp ids s _ hd' h1 hr2 hn (fun b hb=>by
      have:=hge b hb
      rw [if_neg (by omega),if_pos hb]) (fun b hb=>by have:=hge b hb;have:=h.hsz;omega) (fun b hb hj=>by
      have h3:=h.jk b hj
      have h4:=(h.col b _ h3).2
      have:=hge b hb
      omega) (fun R i hR=>fun e=>hκ.1 (e ▸ (h.rts i R hR).1)) hin (fun i hi=>⟨hids i hi,fun e=>hκ.2.1 (e ▸ hi)⟩)
  exact hk _ _ ⟨χ2,hd2,n2.rel.putO hd r2⟩
mutual
def pk (s:St) : AV→Option AV
 | .lit v=>some (.lit v)
 | .ro sz xs=>some (.ro sz xs)
 | .sl i 0 len=>match s.root i with
  | some R=>if Qa1 (R.xs.take len) then some (.own R.T R.sz (R.xs.take len)) else none
  | none=>none
 | .agg cs=>match pkL s cs with
  | some ds=>some (.agg ds)
  | none=>none
 | .tup cs=>match pkL s cs with
  | some ds=>some (.tup ds)
  | none=>none
 | _=>none
def pkL (s:St) : List AV→Option (List AV)
 | []=>some []
 | c :: cs=>match pk s c,pkL s cs with
  | some d,some ds=>some (d :: ds)
  | _,_=>none
end
mutual
def pkI:AV→List Nat
 | .sl i _ _=>[i]
 | .agg cs=>Xhc cs
 | .tup cs=>Xhc cs
 | _=>[]
def Xhc:List AV→List Nat
 | []=>[]
 | c :: cs=>pkI c++Xhc cs
end
mutual
theorem Quk {E:Env} {s:St} {a:Act} {w:World} {χ:Nat→Option Nat} {hd:Nat→Value} (h:Qci E s a w χ hd) : ∀ (x y:AV) (u:Value) (f:List Nat),repR w (Qbg χ w) (· ∈ s.us) (tab s hd) x u f→f=[]→pk s x=some y→(pkI x).Nodup→∃ g,rep w (Qbg χ w) y u g∧g.Nodup∧(∀ b∈g,∃ i∈pkI x,χ b=some i∧i≠JJ)
 | .lit v,y,u,f,hr,hf,he,hn=>by
  simp only [pk] at he;cases he;simp only [repR] at hr;subst hf;exact ⟨[],hr,by simp,by simp⟩
 | .ro sz xs,y,u,f,hr,hf,he,hn=>by
  simp only [pk] at he;cases he;simp only [repR] at hr;subst hf;exact ⟨[],hr,by simp,by simp⟩
 | .sl i 0 len,y,u,f,hr,hf,he,hn=>by
  simp only [pk] at he
  split at he
  case h_2=>cases he
  rename_i R hR
  split at he
  case isFalse=>cases he
  rename_i ht
  cases he
  simp only [repR] at hr
  obtain ⟨_,_,hr⟩:=hr
  obtain ⟨hle,⟨A0,cap,rfl,hcap,h0,_⟩,_⟩:=hr (hd i) R.xs.length R.sz (by simp [tab,hR])
  obtain ⟨_,fp,⟨hz,vs,fp',hown,hrep,rfl⟩,hnd,hcol⟩:=h.rts i R hR
  obtain ⟨m,hm0⟩:=h0 rfl
  have hmx:m=R.xs.length:=by
   obtain ⟨A1,cap1,he1,_⟩:=Qm8 hown
   rw [hm0] at he1;cases he1;rfl
  subst hmx
  have hrep':=hrep
  rw [← List.take_append_drop len R.xs] at hrep'
  obtain ⟨v1,v2,f1,f2,rfl,rfl,hl1,k1,k2⟩:=Qe6 _ _ _ _ hrep'
  have hlx:(R.xs.take len).length=len:=by rw [List.length_take];omega
  rw [hlx] at hl1
  have hp:=Qmo (w:=w) (len:=len) (by rw [hm0] at hown;exact hown) (by omega)
  have ev:(v1++v2).take (len * R.sz)=v1:=by rw [← hl1];exact List.take_left
  rw [ev] at hp
  have hob:(Value.slice A0 len cap).ownBlock=(hd i).ownBlock:=by rw [hm0];cases A0 <;> rfl
  have hiJ:i≠JJ:=fun e=>by rw [e,h.rj] at hR;cases hR
  refine ⟨(Value.slice A0 len cap).ownBlock.toList++f1,?_,?_,?_⟩
  ·simp only [rep]
   exact ⟨v1,f1,by rw [hlx];exact hp,Qey _ _ _ k1 ht,rfl⟩
  ·rw [hob]
   have:((hd i).ownBlock.toList++f1++f2).Nodup:=by rw [List.append_assoc];exact hnd
   exact (List.nodup_append.1 this).1
  ·intro b hb
   refine ⟨i,by simp [pkI],hcol b ?_,hiJ⟩
   rw [hob] at hb
   rcases List.mem_append.1 hb with hb | hb
   ·exact List.mem_append_left _ hb
   ·exact List.mem_append_right _ (List.mem_append_left _ hb)
 | .sl i (off+1) len,y,u,f,hr,hf,he,hn=>by simp [pk] at he
 | .agg cs,y,u,f,hr,hf,he,hn=>by
  simp only [pk] at he
  split at he
  case h_2=>cases he
  rename_i ds hds
  cases he
  simp only [repR] at hr
  obtain ⟨vs,rfl,hr⟩:=hr
  obtain ⟨g,h1,h2,h3⟩:=Qs8 h cs ds vs f hr hf hds hn
  exact ⟨g,by simp only [rep];exact ⟨vs,rfl,h1⟩,h2,h3⟩
 | .tup cs,y,u,f,hr,hf,he,hn=>by
  simp only [pk] at he
  split at he
  case h_2=>cases he
  rename_i ds hds
  cases he
  simp only [repR] at hr
  obtain ⟨vs,rfl,hr⟩:=hr
  obtain ⟨g,h1,h2,h3⟩:=Qs8 h cs ds vs f hr hf hds hn
  exact ⟨g,by simp only [rep];exact ⟨vs,rfl,h1⟩,h2,h3⟩
 | .dead,_,_,_,_,_,he,_=>by simp [pk] at he
 | .own _ _ _,_,_,_,_,_,he,_=>by simp [pk] at he
 | .ptr _ _ _,_,_,_,_,_,he,_=>by simp [pk] at he
 | .rop _ _,_,_,_,_,_,he,_=>by simp [pk] at he
 | .fn _ _,_,_,_,_,_,he,_=>by simp [pk] at he
theorem Qs8 {E:Env} {s:St} {a:Act} {w:World} {χ:Nat→Option Nat} {hd:Nat→Value} (h:Qci E s a w χ hd) : ∀ (xs ys:List AV) (us:List Value) (f:List Nat),Qah w (Qbg χ w) (· ∈ s.us) (tab s hd) xs us f→f=[]→pkL s xs=some ys→(Xhc xs).Nodup→∃ g,Qfm w (Qbg χ w) ys us g∧g.Nodup∧(∀ b∈g,∃ i∈Xhc xs,χ b=some i∧i≠JJ)
 | [],ys,us,f,hr,hf,he,hn=>by
  simp only [pkL] at he;cases he;simp only [Qah] at hr
  exact ⟨[],by simp only [Qfm];exact ⟨hr.1,trivial⟩,by simp,by simp⟩
 | c :: cs,ys,us,f,hr,hf,he,hn=>by
  simp only [pkL] at he
  split at he
  case h_2=>cases he
  rename_i d ds h1 h2
  cases he
  simp only [Qah] at hr
  obtain ⟨u,us',f1,f2,rfl,hf',k1,k2⟩:=hr
  rw [hf] at hf'
  obtain ⟨e1,e2⟩:=List.append_eq_nil_iff.1 hf'.symm
  simp only [Xhc,List.nodup_append] at hn
  obtain ⟨g1,a1,a2,a3⟩:=Quk h c d u f1 k1 e1 h1 hn.1
  obtain ⟨g2,b1,b2,b3⟩:=Qs8 h cs ds us' f2 k2 e2 h2 hn.2.1
  refine ⟨g1++g2,by simp only [Qfm];exact ⟨u,us',g1,g2,rfl,rfl,a1,b1⟩,?_,?_⟩
  ·rw [List.nodup_append]
   refine ⟨a2,b2,?_⟩
   intro b hb b' hb' e
   subst e
   obtain ⟨i,hi,hi2,_⟩:=a3 b hb
   obtain ⟨j,hj,hj2,_⟩:=b3 b hb'
   rw [hi2] at hj2;cases hj2
   exact hn.2.2 i hi i hj rfl
  ·intro b hb
   simp only [Xhc]
   rcases List.mem_append.1 hb with hb | hb
   ·obtain ⟨i,hi,hi2⟩:=a3 b hb;exact ⟨i,List.mem_append_left _ hi,hi2⟩
   ·obtain ⟨i,hi,hi2⟩:=b3 b hb;exact ⟨i,List.mem_append_right _ hi,hi2⟩
end
end Go.T
set_option linter.unusedVariables false
namespace Go.T
open Go Go.RowKit
def Xjv (s:St) (x:AV) : Option AV:=if Qw6 x then some (frz x) else out s x
def Qxd (s:St) : List AV→Option (List AV)
 | []=>some []
 | c :: cs=>match Xjv s c,Qxd s cs with
  | some d,some ds=>some (d :: ds)
  | _,_=>none
def Qs1 (s:St) : List (List AV)→Option (List (List AV))
 | []=>some []
 | c :: cs=>match Qxd s c,Qs1 s cs with
  | some d,some ds=>some (d :: ds)
  | _,_=>none
def Xir (s:St) : AV→Option AV
 | .sl i off len=>match s.root i with
  | some R=>match Qs1 s ((R.xs.drop off).take len) with
   | some ys=>some (.ro R.sz ys)
   | none=>none
  | none=>none
 | .ptr i e o=>match s.root i with
  | some R=>match R.xs[e]? with
   | some x=>match Qxd s x with
    | some y=>some (.rop y o)
    | none=>none
   | none=>none
  | none=>none
 | x=>out s x
mutual
theorem Xcr {w:World} {S U:Nat→Prop} {ρ:Tab} {s:St} : ∀ (x y:AV) (u:Value) (f:List Nat),repR w S U ρ x u f→out s x=some y→f=[]
 | .lit v,y,u,f,hr,he=>by simp only [repR,rep] at hr;exact hr.1
 | .ro sz xs,y,u,f,hr,he=>by simp only [repR,rep] at hr;exact hr.1
 | .rop cs o,y,u,f,hr,he=>by simp only [repR,rep] at hr;exact hr.1
 | .sl i off len,y,u,f,hr,he=>by simp only [repR] at hr;exact hr.1
 | .ptr i e o,y,u,f,hr,he=>by simp only [repR] at hr;exact hr.1
 | .agg cs,y,u,f,hr,he=>by
  simp only [out] at he
  split at he
  case h_2=>cases he
  rename_i ds hds
  simp only [repR] at hr
  obtain ⟨vs,_,hr⟩:=hr
  exact Qz3 cs ds vs f hr hds
 | .fn g cs,y,u,f,hr,he=>by
  simp only [out] at he
  split at he
  case h_2=>cases he
  rename_i ds hds
  simp only [repR] at hr
  obtain ⟨vs,_,hr⟩:=hr
  exact Qz3 cs ds vs f hr hds
 | .dead,y,u,f,hr,he=>by simp [out] at he
 | .own _ _ _,y,u,f,hr,he=>by simp [out] at he
 | .tup _,y,u,f,hr,he=>by simp [out] at he
theorem Qz3 {w:World} {S U:Nat→Prop} {ρ:Tab} {s:St} : ∀ (xs ys:List AV) (us:List Value) (f:List Nat),Qah w S U ρ xs us f→Qvs s xs=some ys→f=[]
 | [],ys,us,f,hr,he=>by simp only [Qah] at hr;exact hr.2
 | c :: cs,ys,us,f,hr,he=>by
  simp only [Qvs] at he
  split at he
  case h_2=>cases he
  rename_i d ds h1 h2
  simp only [Qah] at hr
  obtain ⟨u,us',f1,f2,rfl,rfl,k1,k2⟩:=hr
  rw [Xcr c d u f1 k1 h1,Qz3 cs ds us' f2 k2 h2];rfl
end
variable {E:Env} {s:St} {a:Act} {w:World} {χ:Nat→Option Nat} {hd:Nat→Value}
theorem Xb6 (h:Qci E s a w χ hd) {x y:AV} {u:Value} {f:List Nat} (hr:repR w (Qbg χ w) (· ∈ s.us) (tab s hd) x u f) (hf : ∀ b∈f,b<w.heap.size) (he:Xjv s x=some y) : rep w (fun b=>b<w.heap.size) y u []:=by
 unfold Xjv at he
 split at he
 ·rename_i ht
  cases he
  have h1:Qah w (Qbg χ w) (· ∈ s.us) (tab s hd) [x] [u] f:=by
   simp only [Qah]
   exact ⟨u,[],f,[],rfl,by simp,hr,rfl,rfl⟩
  have h2:=Qe8 _ _ _ h1 (by simp [Qeq,ht])
  simp only [Qfm] at h2
  obtain ⟨u',us',f1,f2,e1,e2,h3,h4,h5⟩:=h2
  cases e1
  rw [h5,List.append_nil] at e2
  subst e2
  exact Xcv (S2:=fun b=>b<w.heap.size) _ _ _ h3 Qpu hf
 ·exact Qr9 h x y u f hr (Xcr x y u f hr he) he
theorem Qn8 (h:Qci E s a w χ hd) : ∀ {xs ys:List AV} {us:List Value} {f:List Nat},Qah w (Qbg χ w) (· ∈ s.us) (tab s hd) xs us f→(∀ b∈f,b<w.heap.size)→Qxd s xs=some ys→Qfm w (fun b=>b<w.heap.size) ys us []
 | [],ys,us,f,hr,hf,he=>by simp only [Qxd] at he;cases he;simp only [Qah] at hr;simp only [Qfm];exact ⟨hr.1,trivial⟩
 | c :: cs,ys,us,f,hr,hf,he=>by
  simp only [Qxd] at he
  split at he
  case h_2=>cases he
  rename_i d ds h1 h2
  cases he
  simp only [Qah] at hr
  obtain ⟨u,us',f1,f2,rfl,rfl,k1,k2⟩:=hr
  simp only [Qfm]
  exact ⟨u,us',[],[],rfl,rfl,Xb6 h k1 (fun b hb=>hf b (by simp [hb])) h1,Qn8 h k2 (fun b hb=>hf b (by simp [hb])) h2⟩
theorem Qqe (h:Qci E s a w χ hd) {sz:Nat} : ∀ {xs ys:List (List AV)} {us:List Value} {f:List Nat},Qao w (Qbg χ w) (· ∈ s.us) (tab s hd) sz xs us f→(∀ b∈f,b<w.heap.size)→Qs1 s xs=some ys→ys.length=xs.length∧Qdt w (fun b=>b<w.heap.size) sz ys us []
 | [],ys,us,f,hr,hf,he=>by simp only [Qs1] at he;cases he;simp only [Qao] at hr;simp only [Qdt];exact ⟨trivial,hr.1,trivial⟩
 | c :: cs,ys,us,f,hr,hf,he=>by
  simp only [Qs1] at he
  split at he
  case h_2=>cases he
  rename_i d ds h1 h2
  cases he
  simp only [Qao] at hr
  obtain ⟨u,us',f1,f2,rfl,rfl,hl,hc,k1,k2⟩:=hr
  obtain ⟨e1,e2⟩:=Qqe h k2 (fun b hb=>hf b (by simp [hb])) h2
  simp only [Qdt]
  exact ⟨by simp [e1],u,us',[],[],rfl,rfl,hl,hc,Qn8 h k1 (fun b hb=>hf b (by simp [hb])) h1,e2⟩
theorem Qk6 (h:Qci E s a w χ hd) : ∀ (x y:AV) (u:Value) (f:List Nat),repR w (Qbg χ w) (· ∈ s.us) (tab s hd) x u f→Xir s x=some y→rep w (fun b=>b<w.heap.size) y u []:=by
 intro x y u f hr he
 unfold Xir at he
 split at he
 ·rename_i i off len
  split at he
  case h_2=>cases he
  rename_i R hR
  split at he
  case h_2=>cases he
  rename_i ys hys
  cases he
  simp only [repR] at hr
  obtain ⟨_,_,hr⟩:=hr
  obtain ⟨hle,hu,_⟩:=hr (hd i) R.xs.length R.sz (by simp [tab,hR])
  obtain ⟨A,cap,vs,g,rfl,hcap,hrr,hg,hA⟩:=Qu5 h hR hle hu
  have hlen:((R.xs.drop off).take len).length=len:=by rw [List.length_take,List.length_drop];omega
  obtain ⟨e1,hz⟩:=Qqe h hrr (fun b hb=>(h.col b i (hg b hb)).2) hys
  simp only [rep]
  refine ⟨trivial,A,cap,by rw [e1,hlen],by rw [e1,hlen];exact hcap,?_⟩
  by_cases hl:len=0
  ·left;exact List.length_eq_zero_iff.1 (by rw [e1,hlen,hl])
  ·obtain ⟨b,rfl,hat,hcb⟩:=hA (by omega)
   exact .inr ⟨b,_,vs,rfl,(h.col b i hcb).2,hat,hz⟩
 ·rename_i i e o
  split at he
  case h_2=>cases he
  rename_i R hR
  split at he
  case h_2=>cases he
  rename_i x hx
  split at he
  case h_2=>cases he
  rename_i y1 hy
  cases he
  simp only [repR] at hr
  obtain ⟨_,_,hr⟩:=hr
  obtain ⟨hlt,b,m,c,hh,rfl⟩:=hr (hd i) R.xs.length R.sz (by simp [tab,hR])
  obtain ⟨_,fp,⟨hz,vs,fp',hown,hrep,rfl⟩,_,hcol⟩:=h.rts i R hR
  obtain ⟨v1,us,v2,f1,fe,f2,rfl,rfl,hl1,hlus,h1c,k1,kx,k2⟩:=Qg8 hrep hx
  have hat:=Qhe hown (b:=b) (by rw [hh];rfl)
  have hz:=Qn8 h kx (fun b hb=>(h.col b i (hcol b (by simp [hb]))).2) hy
  simp only [rep]
  refine ⟨trivial,b,e * R.sz,us,rfl,(h.col b i (hcol b (by rw [hh];simp [Value.ownBlock]))).2,?_,hz⟩
  intro k v hk
  have hkl:k<us.length:=(List.getElem?_eq_some_iff.1 hk).1
  have:=hat (e * R.sz+k) v (by rw [List.append_assoc,List.getElem?_append_right (by omega),show e * R.sz+k - v1.length=k by omega,List.getElem?_append_left hkl];exact hk)
  simpa using this
 ·exact Qr9 h x y u f hr (Xcr x y u f hr he) he
def rs1 (τ:List (Nat×Qae)) (x:AV) : Option AV:=if Qw6 x then some (frz x) else match x with
 | .sl i off len=>match τ.lookup i with
  | some R=>if Qa1 ((R.xs.drop off).take len) then some (.ro R.sz (Qnk ((R.xs.drop off).take len))) else none
  | none=>none
 | _=>none
def rsL (τ:List (Nat×Qae)) : List AV→Option (List AV)
 | []=>some []
 | c :: cs=>match rs1 τ c,rsL τ cs with
  | some d,some ds=>some (d :: ds)
  | _,_=>none
def Qq1 (τ:List (Nat×Qae)) : List (List AV)→Option (List (List AV))
 | []=>some []
 | c :: cs=>match rsL τ c,Qq1 τ cs with
  | some d,some ds=>some (d :: ds)
  | _,_=>none
def tOK (s:St) (τ:List (Nat×Qae)) : Prop:=∀ i R,τ.lookup i=some R→s.root i=some R
theorem Xhp {τ:List (Nat×Qae)} (h:tOK s τ) {x y:AV} (he:rs1 τ x=some y) : Xjv s x=some y:=by
 unfold rs1 at he
 unfold Xjv
 split at he
 ·rename_i ht;rw [if_pos ht];exact he
 ·rename_i ht
  rw [if_neg ht]
  split at he
  ·rename_i i off len
   split at he
   ·rename_i R hR
    simp only [out,h i R hR]
    exact he
   ·cases he
  ·cases he
theorem Qyd {τ:List (Nat×Qae)} (h:tOK s τ) : ∀ {xs ys:List AV},rsL τ xs=some ys→Qxd s xs=some ys
 | [],ys,he=>he
 | c :: cs,ys,he=>by
  simp only [rsL] at he
  split at he
  case h_2=>cases he
  rename_i d ds h1 h2
  cases he
  simp only [Qxd,Xhp h h1,Qyd h h2]
theorem Qzl {τ:List (Nat×Qae)} (h:tOK s τ) : ∀ {xs ys:List (List AV)},Qq1 τ xs=some ys→Qs1 s xs=some ys
 | [],ys,he=>he
 | c :: cs,ys,he=>by
  simp only [Qq1] at he
  split at he
  case h_2=>cases he
  rename_i d ds h1 h2
  cases he
  simp only [Qs1,Qyd h h1,Qzl h h2]
theorem Qjf {τ:List (Nat×Qae)} {α:Type} {o r : α→List AV} (ht : ∀ x,Qeq (o x)=true) (hz : ∀ x,Qnh (o x)=r x) : ∀ l:List α,Qq1 τ (l.map o)=some (l.map r)
 | []=>rfl
 | x :: l=>by
  have key : ∀ cs:List AV,Qeq cs=true→rsL τ cs=some (Qnh cs):=by
   intro cs
   induction cs with
   | nil=>intro _;rfl
   | cons c cs ih =>
    intro hc
    simp only [Qeq,Bool.and_eq_true] at hc
    simp only [rsL,rs1,hc.1,if_true,ih hc.2,Qnh]
  simp only [List.map_cons,Qq1,key _ (ht x),hz,Qjf ht hz l]
theorem Xa1 {τ:List (Nat×Qae)} {c d:List AV} (hc:rsL τ c=some d) : ∀ {xs ys:List (List AV)} {k:Nat},Qq1 τ xs=some ys→Qq1 τ (xs.set k c)=some (ys.set k d)
 | [],ys,k,h=>by simp only [Qq1] at h;cases h;simp [Qq1]
 | x :: xs,ys,k,h=>by
  simp only [Qq1] at h
  split at h
  case h_2=>cases h
  rename_i e es h1 h2
  cases h
  cases k with
  | zero=>simp only [List.set_cons_zero,Qq1,hc,h2]
  | succ k=>simp only [List.set_cons_succ,Qq1,h1,Xa1 hc h2]
mutual
def Xbo (s:St) (τ:List (Nat×Qae)) : AV→List (List (List AV))→Option (AV×List Prop×List (List (List AV)))
 | .lit v,z=>some (.lit v,[],z)
 | .ro sz xs,z=>some (.ro sz xs,[],z)
 | .rop cs o,z=>some (.rop cs o,[],z)
 | .sl i off len,z=>match z with
  | zs :: z=>match s.root i with
   | some R=>some (.ro R.sz zs,[Qq1 τ ((R.xs.drop off).take len)=some zs],z)
   | none=>none
  | []=>none
 | .ptr i e o,z=>match z with
  | [x,x'] :: z=>match s.root i with
   | some R=>some (.rop x' o,[R.xs[e]? = some x,rsL τ x=some x'],z)
   | none=>none
  | _=>none
 | .agg cs,z=>match Qz5 s τ cs z with
  | some (ds,ps,z')=>some (.agg ds,ps,z')
  | none=>none
 | .fn g cs,z=>match Qz5 s τ cs z with
  | some (ds,ps,z')=>some (.fn g ds,ps,z')
  | none=>none
 | _,_=>none
def Qz5 (s:St) (τ:List (Nat×Qae)) : List AV→List (List (List AV))→Option (List AV×List Prop×List (List (List AV)))
 | [],z=>some ([],[],z)
 | c :: cs,z=>match Xbo s τ c z with
  | some (d,ps,z')=>match Qz5 s τ cs z' with
   | some (ds,qs,z'')=>some (d :: ds,ps++qs,z'')
   | none=>none
  | none=>none
end
theorem Xar {E:Env} {o:Oper} {s:St} {x:Operand} {f:FuncId} {caps:List AV} {args:Array Operand} {tys:Array TypeId} (ho:o.op = .call ⟨.value x,args,tys⟩) (hx:Qal s x = .fn f caps) (hd:okD E.n o.dst=true) {outs:List AV} (hout : ∀ {a:Act} {w:World} {χ:Nat→Option Nat} {hd:Nat→Value},Qci E s a w χ hd→∀ us,Qah w (Qbg χ w) (· ∈ s.us) (tab s hd) (args.toList.map (Qal s)++caps) us []→Qfm w (fun b=>b<w.heap.size) outs us []) {res:AV} (hm:Qab E.P f outs res) (hro:Qez res=true)
    (ids:List Nat) (hin:ids.Nodup) (hids : ∀ i∈ids,i ∉ s.us) : Qm5 E o s ((s.addL (rtf res ids).2.1).putO o.dst (rtf res ids).1):=by
  rintro a w ⟨χ,hd',h⟩ K Q hk
  obtain ⟨dst,op,type,pos,after,guard⟩:=o
  simp only at ho hd hk
  subst ho
  obtain ⟨hent,hm⟩:=hm
  have hxr:=Qak h x
  rw [hx] at hxr
  simp only [repR] at hxr
  obtain ⟨vs,hxv,hcr⟩:=hxr
  have hargs:=hout h _ (Qdy (Qi0 h args.toList) hcr)
  have hc:=hm w (fun b=>b<w.heap.size) _ hargs (fun _ h=>h)
  have hrun:(execOp a.eval ⟨dst,.call ⟨.value x,args,tys⟩,type,pos,after,guard⟩).run E.P w = .ok (.enter f (args.toList.map a.eval++vs).toArray) w:=by
    have e1:(args.toList.map a.eval++vs).toArray=args.map a.eval++vs.toArray:=by
      rw [← Array.toList_map]
      apply Array.ext'
      simp
    simp only [execOp,resolve,hxv,invoke,Deferred.ofValue,Sem.run_bind,Sem.run_pure,Result.andThen_ok]
    simp only [Array.empty_append]
    rw [e1]
    exact hent _ w
  unfold Oper.wp
  rw [hrun]
  show Calls E.P f _ w _
  refine hc.mono ?_
  rintro e w' ⟨v,fp,rfl,hb,hdr,hr,hn,hge⟩
  show K _ _
  -- a colour that nothing has
  obtain ⟨κ,hκ⟩ : ∃ κ:Nat,κ ∉ s.us∧κ ∉ ids∧κ≠JJ:=by
    have : ∃ κ:Nat,∀ x∈s.us++ids++[JJ],x<κ:=by
      generalize s.us++ids++[JJ]=l
      induction l with
      | nil=>exact ⟨0,by simp⟩
      | cons y l ih =>
        obtain ⟨κ,hκ⟩:=ih
        refine ⟨max κ (y+1),?_⟩
        intro x hx
        rcases List.mem_cons.1 hx with rfl | hx
        · omega
        · have:=hκ x hx;omega
    obtain ⟨κ,hκ⟩:=this
    refine ⟨κ,fun hm=>?_,fun hm=>?_,fun hm=>?_⟩
    · have:=hκ κ (by simp [hm]);omega
    · have:=hκ κ (by simp [hm]);omega
    · have:=hκ JJ (by simp);omega
  have hlt:=Qp0 _ _ _ hr
  have h1:=h.grow hb hdr (fun b=>if b∈fp then some κ else none) (fun b r hbr=>by
    split at hbr
    · rename_i hm;exact hlt b hm
    · cases hbr)
  have hr2:=Qqt (S2:=Qbg (fun b=>if b<w.heap.size then χ b else if b∈fp then some κ else none) w') _ _ _ hr hro
  obtain ⟨χ2,hd2,n2,r2,_,_,_⟩:=Qnu (κ:=κ) res v fp ids s _ hd' h1 hr2 hn (fun b hb=>by
      have:=hge b hb
      rw [if_neg (by omega),if_pos hb]) (fun b hb=>by have:=hge b hb;have:=h.hsz;omega) (fun b hb hj=>by
      have h3:=h.jk b hj
      have h4:=(h.col b _ h3).2
      have:=hge b hb
      omega) (fun R i hR=>fun e=>hκ.1 (e ▸ (h.rts i R hR).1)) hin (fun i hi=>⟨hids i hi,fun e=>hκ.2.1 (e ▸ hi)⟩)
  exact hk _ _ ⟨χ2,hd2,n2.rel.putO hd r2⟩
end Go.T
set_option linter.unusedVariables false
namespace Go.T
open Go Go.RowKit Go.Proofs
def Ent (E:Env) (s s':St) : Prop:=∀ a w,Rel E s a w→Rel E s' a w
theorem Ent.refl (E:Env) (s:St) : Ent E s s:=fun _ _ h=>h
theorem Ent.trans {E:Env} {s t u:St} (h:Ent E s t) (k:Ent E t u) : Ent E s u:=fun a w x=>k a w (h a w x)
inductive Qpa (E:Env) (ops:Array Oper) : List Oper→St→St→Prop
 | nil (s:St) : Qpa E ops [] s s
 | op {o:Oper} {rest:List Oper} {s s1 s2:St}:o.guard=none→Qm5 E o s s1→Qpa E ops rest s1 s2→Qpa E ops (o :: rest) s s2
 | yes {o:Oper} {rest:List Oper} {s s1 s2:St} {j d:Nat} {b:Bool}:o.guard=some (j,b)→((ops[j]?).bind (·.dst))=some d→d<E.n→s.get d = .lit (.bool b)→Qm5 E o s s1→Qpa E ops rest s1 s2→Qpa E ops (o :: rest) s s2
 | no {o:Oper} {rest:List Oper} {s s2:St} {j d:Nat} {b c:Bool}:o.guard=some (j,b)→((ops[j]?).bind (·.dst))=some d→d<E.n→s.get d = .lit (.bool c)→c≠b→okD E.n o.dst=true→Qpa E ops rest (s.putO o.dst .dead) s2→Qpa E ops (o :: rest) s s2
 | ent {rest:List Oper} {s s1 s2:St}:Ent E s s1→Qpa E ops rest s1 s2→Qpa E ops rest s s2
theorem Qyr {E:Env} {s:St} {a:Act} {w:World} (h:Rel E s a w) {ops:Array Oper} {j d:Nat} {b:Bool} (hj:((ops[j]?).bind (·.dst))=some d) (hd:d<E.n) (hg:s.get d = .lit (.bool b)) : yielded ops a.tmps j=some b:=by
 obtain ⟨χ,hd',h⟩:=h
 have:=h.slots d
 rw [hg] at this
 have:=Qgh this
 unfold yielded
 rw [hj,Option.bind_some]
 have hs:d<a.tmps.size:=by rw [h.size];exact hd
 rw [Array.getD_eq_getD_getElem?,Array.getElem?_eq_getElem hs,Option.getD_some] at this
 rw [Array.getElem?_eq_getElem hs,this]
def TWp (E:Env) (c:Code) (Q:Exit→St→Prop) (s:St) : Prop:=∀ a w,Rel E s a w→c.wp E.P (fun e a' w' => ∃ s',Q e s'∧Rel E s' a' w') a w
theorem Quo {E:Env} {c:Code} {Q:Exit→St→Prop} {s s':St} (he:Ent E s s') (h:TWp E c Q s') : TWp E c Q s:=fun a w hr=>h a w (he a w hr)
theorem Xfq {E:Env} {Q:Exit→St→Prop} {s:St} (h:Q .normal s) : TWp E .skip Q s:=fun a w hr=>wp_skip ⟨s,h,hr⟩
theorem Xg7 {E:Env} {Q:Exit→St→Prop} {s:St} {id:Nat} (h:Q (.exit id) s) : TWp E (.exit id) Q s:=fun a w hr=>wp_exit ⟨s,h,hr⟩
theorem Xi7 {E:Env} {Q:Exit→St→Prop} {s:St} (h:Q .ret s) : TWp E .ret Q s:=fun a w hr=>wp_ret ⟨s,h,hr⟩
def thn (k:St→Prop) (Q:Exit→St→Prop) : Exit→St→Prop
 | .normal,s=>k s
 | e,s=>Q e s
theorem Xhu {E:Env} {x y:Code} {Q:Exit→St→Prop} {s:St} (h:TWp E x (thn (TWp E y Q) Q) s) : TWp E (.seq x y) Q s:=by
 intro a w hr
 refine wp_seq (wp_mono (h a w hr) ?_)
 rintro e a' w' ⟨s',h1,h2⟩
 cases e with
 | normal=>exact h1 a' w' h2
 | _=>exact ⟨s',h1,h2⟩
theorem Xfh {E:Env} {c:Operand} {x y:Code} {Q:Exit→St→Prop} {s:St} {b:Bool} (hc:Qal s c = .lit (.bool b)) (ht:b=true→TWp E x Q s) (hf:b=false→TWp E y Q s) : TWp E (.cond c x y) Q s:=by
 rintro a w ⟨χ,hd,h⟩
 have:=Qgh (hc ▸ Qak h c)
 exact wp_cond_split this (fun hb=>ht hb a w ⟨χ,hd,h⟩) (fun hb=>hf hb a w ⟨χ,hd,h⟩)
def inB (id:Nat) (Q:Exit→St→Prop) : Exit→St→Prop
 | .exit i,s=>if i=id then Q .normal s else Q (.exit i) s
 | e,s=>Q e s
theorem Xdt {E:Env} {id:Nat} {c:Code} {Q:Exit→St→Prop} {s:St} (h:TWp E c (inB id Q) s) : TWp E (.block id c) Q s:=by
 intro a w hr
 refine wp_block (wp_mono (h a w hr) ?_)
 rintro e a' w' ⟨s',h1,h2⟩
 cases e with
 | exit i =>
  simp only [inB] at h1
  simp only [Exit.inBlock]
  split
  ·rename_i hi;rw [if_pos hi] at h1;exact ⟨s',h1,h2⟩
  ·rename_i hi;rw [if_neg hi] at h1;exact ⟨s',h1,h2⟩
 | _=>exact ⟨s',h1,h2⟩
def resV (Θ:Tys) (s:St) : ResultVar→Option AV
 | .tmp t=>some (s.get t)
 | .cell p t=>Qs5 Θ s t (s.get p)
def Quy (Θ:Tys) (s:St) : List ResultVar→Option (List AV)
 | []=>some []
 | r :: rs=>match resV Θ s r,Quy Θ s rs with
  | some x,some xs=>some (x :: xs)
  | _,_=>none
def one:List AV→AV
 | [x]=>x
 | xs=>.tup xs
def Xf9 (tmps:Array Value) (r:ResultVar) : Sem Value:=
 match r with
 | .tmp t=>pure (tmps.getD t undef)
 | .cell p t=>do loadVar t (← asAddr (tmps.getD p undef))
theorem Xbj (fn:Func) (tmps:Array Value) : results fn tmps=(do let vs ← fn.results.mapM (Xf9 tmps);pure (if h:vs.size=1 then vs[0] else .tuple vs)):=rfl
theorem Qr1 {E:Env} {s:St} {a:Act} {w:World} {χ:Nat→Option Nat} {hd:Nat→Value} {Θ:Tys} (hΘ:TOK E.P Θ) (h:Qci E s a w χ hd) : ∀ (rs:List ResultVar) (xs:List AV),Quy Θ s rs=some xs →
  ∃ vs,(rs.mapM (Xf9 a.tmps) : Sem (List Value)).run E.P w = .ok vs w∧Qah w (Qbg χ w) (· ∈ s.us) (tab s hd) xs vs []
 | [],xs,he=>by simp only [Quy] at he;cases he;exact ⟨[],by simp,by simp [Qah]⟩
 | r :: rs,xs,he=>by
  simp only [Quy] at he
  split at he
  case h_2=>cases he
  rename_i x xs' h1 h2
  cases he
  obtain ⟨vs,hvs,hr⟩:=Qr1 hΘ h rs xs' h2
  have hx : ∃ v,(Xf9 a.tmps r).run E.P w = .ok v w∧repR w (Qbg χ w) (· ∈ s.us) (tab s hd) x v []:=by
   cases r with
   | tmp t=>simp only [resV] at h1;cases h1;exact ⟨_,rfl,h.slots t⟩
   | cell p t =>
    simp only [resV] at h1
    obtain ⟨v,hv,hvr⟩:=Qqh hΘ h (h.slots p) h1
    refine ⟨v,?_,hvr⟩
    obtain ⟨y,o,hpl⟩ : ∃ y o,Qwy s (s.get p)=some (y,o):=by
     unfold Qs5 at h1
     split at h1
     ·cases h1
     ·split at h1
      ·cases h1
      ·exact ⟨_,_,by assumption⟩
    obtain ⟨b,k,us,f,hu,_⟩:=Qzr h (h.slots p) hpl
    simp only [Instr.loadAt,Sem.run_bind] at hv
    show (do loadVar t (← asAddr (a.tmps.getD p undef)) : Sem Value).run E.P w=_
    rw [hu] at hv ⊢
    simpa [Instr.sureAddr,asAddr] using hv
  obtain ⟨v,hv,hvr⟩:=hx
  refine ⟨v :: vs,?_,?_⟩
  ·rw [List.mapM_cons]
   simp only [Sem.run_bind,hv,Result.andThen_ok,hvs,Sem.run_pure]
  ·simp only [Qah]
   exact ⟨v,vs,[],[],rfl,rfl,hvr,hr⟩
def Qw5 (args:List AV) : St:=⟨(args.zipIdx).map (fun p=>(p.2,p.1)),[],[JJ]⟩
theorem Qkc : ∀ (args:List AV) (k t:Nat),((args.zipIdx k).map (fun p=>(p.2,p.1))).lookup (k+t)=args[t]?
 | [],k,t=>by simp
 | x :: args,k,t=>by
  rw [List.zipIdx_cons,List.map_cons]
  cases t with
  | zero=>simp
  | succ t =>
   rw [Qaf (by simp),show k+(t+1)=(k+1)+t by omega,Qkc args (k+1) t]
   rfl
theorem Xbr (args:List AV) (t:Nat) : (Qw5 args).get t=(args[t]?).getD .dead:=by
 have:=Qkc args 0 t
 rw [Nat.zero_add] at this
 simp only [St.get,Qw5,this]
theorem Xa0 {w:World} {S:Nat→Prop} : ∀ (cs:List AV) (vs:List Value) (i:Nat) (c:AV),Qfm w S cs vs []→cs[i]? = some c→∃ v,vs[i]? = some v∧rep w S c v []
 | [],_,i,c,_,h=>by simp at h
 | d :: cs,vs,i,c,h,he=>by
  simp only [Qfm] at h
  obtain ⟨u,us,f1,f2,rfl,hf,h1,h2⟩:=h
  obtain ⟨rfl,rfl⟩:=List.append_eq_nil_iff.1 hf.symm
  cases i with
  | zero=>simp at he;subst he;exact ⟨u,rfl,h1⟩
  | succ i=>simp at he;simpa using Xa0 cs us i c h2 he
theorem Qsf {w:World} {S:Nat→Prop} : ∀ (cs:List AV) (vs:List Value) (f:List Nat),Qfm w S cs vs f→vs.length=cs.length
 | [],_,_,h=>by simp only [Qfm] at h;simp [h.1]
 | c :: cs,_,_,h=>by
  simp only [Qfm] at h
  obtain ⟨u,us,f1,f2,rfl,_,_,h2⟩:=h
  simp [Qsf cs us f2 h2]
end Go.T
set_option linter.unusedVariables false
namespace Go.T
open Go Go.RowKit Go.Proofs
theorem Qpt {α:Type} (g:Nat→α) : ∀ (l:List Nat) (t:Nat),(l.map fun t=>(t,g t)).lookup t=if t∈l then some (g t) else none
 | [],t=>by simp
 | x :: l,t=>by
  rw [List.map_cons]
  by_cases h:t=x
  ·subst h;rw [Qan];simp
  ·rw [Qaf h,Qpt g l t]
   simp [h]
theorem Qci.weak {E:Env} {s s2:St} {a:Act} {w:World} {χ:Nat→Option Nat} {hd:Nat→Value} (h:Qci E s a w χ hd) (hg : ∀ t,s2.get t=s.get t∨s2.get t = .dead) (hr : ∀ i,s2.root i=s.root i) (hu:s2.us=s.us) : Qci E s2 a w χ hd:=by
 have ht:tab s2 hd=tab s hd:=by funext i;simp [tab,hr]
 refine ⟨h.defers,h.size,h.os,h.tape,h.output,h.hsz,h.frame,by rw [hu];exact h.fx,by rw [hu];exact h.jj,by rw [hr];exact h.rj,h.jk,h.col,?_,?_⟩
 ·intro i R hR
  rw [hr] at hR
  rw [hu,ht]
  exact h.rts i R hR
 ·intro t
  rw [hu,ht]
  rcases hg t with e | e
  ·rw [e];exact h.slots t
  ·rw [e];exact Qdk _
theorem Qb5 {a b:Bool} (h:a=b) : AV.lit (.bool a)=AV.lit (.bool b):=by rw [h]
theorem Qpa.split {E:Env} {ops:Array Oper} {o:Oper} {rest:List Oper} {s s2:St} {c:Bool} (h:c=true→Qpa E ops (o :: rest) s s2) (k:c=false→Qpa E ops (o :: rest) s s2) : Qpa E ops (o :: rest) s s2:=by
 cases c
 ·exact k rfl
 ·exact h rfl
end Go.T
set_option linter.unusedVariables false
namespace Go.T
open Go Go.RowKit Go.Proofs
def RW (E:Env) (ops:Array Oper) (l:List Oper) (s:St) (K:St→Prop) : Prop:=
 ∀ a w (Q:Exit→Act→World→Prop),Rel E s a w→(∀ s' a' w',K s'→Rel E s' a' w'→Q .normal a' w')→wpList E.P ops Q l a w
theorem Xjt {E:Env} {ops:Array Oper} {s:St} {K:St→Prop} (h:K s) : RW E ops [] s K:=
 fun a w Q hr hq=>wpList_nil (hq s a w h hr)
theorem Xgj {E:Env} {ops:Array Oper} {l:List Oper} {s s1:St} {K:St→Prop} (he:Ent E s s1) (h:RW E ops l s1 K) : RW E ops l s K:=
 fun a w Q hr hq=>h a w Q (he a w hr) hq
theorem Xii {E:Env} {id:Nat} {ops:Array Oper} {Q:Exit→St→Prop} {s:St} (h:RW E ops ops.toList s (Q .normal)) : TWp E (.region id ops false) Q s:=
 fun a w hr=>wp_region_list (h a w _ hr fun s' a' w' hs' hr'=>⟨s',hs',hr'⟩)
mutual
def Qe3 (π:List (Nat×Nat)) : AV→AV
 | .sl i off len=>match π.lookup i with
  | some j=>.sl j off len
  | none=>.dead
 | .ptr i e o=>match π.lookup i with
  | some j=>.ptr j e o
  | none=>.dead
 | .agg cs=>.agg (Xe6 π cs)
 | .tup cs=>.tup (Xe6 π cs)
 | .fn g cs=>.fn g (Xe6 π cs)
 | a=>a
def Xe6 (π:List (Nat×Nat)) : List AV→List AV
 | []=>[]
 | c :: cs=>Qe3 π c :: Xe6 π cs
end
def Qqq (π:List (Nat×Nat)) (xs:List (List AV)) : List (List AV):=xs.map (Xe6 π)
mutual
theorem Qpl {w:World} {S S2 U U2:Nat→Prop} {ρ ρ2:Tab} {π:List (Nat×Nat)} (hS : ∀ b,S b→S2 b) (hU : ∀ i j,π.lookup i=some j→U2 j) (hρ : ∀ i j,π.lookup i=some j→ρ2 j=ρ i) : ∀ (a:AV) (u:Value) (fp:List Nat),repR w S U ρ a u fp→repR w S2 U2 ρ2 (Qe3 π a) u fp
 | .sl id off len,u,fp,h=>by
  simp only [Qe3]
  simp only [repR] at h
  split
  ·rename_i j hj
   simp only [repR]
   exact ⟨h.1,hU _ _ hj,fun a b c hh=>h.2.2 a b c (by rw [← hρ _ _ hj];exact hh)⟩
  ·rw [h.1];exact Qdk _
 | .ptr id e o,u,fp,h=>by
  simp only [Qe3]
  simp only [repR] at h
  split
  ·rename_i j hj
   simp only [repR]
   exact ⟨h.1,hU _ _ hj,fun a b c hh=>h.2.2 a b c (by rw [← hρ _ _ hj];exact hh)⟩
  ·rw [h.1];exact Qdk _
 | .agg cs,u,fp,h=>by
  simp only [Qe3,repR] at h ⊢
  obtain ⟨vs,hu,hr⟩:=h
  exact ⟨vs,hu,Qk9 hS hU hρ cs vs fp hr⟩
 | .tup cs,u,fp,h=>by
  simp only [Qe3,repR] at h ⊢
  obtain ⟨vs,hu,hr⟩:=h
  exact ⟨vs,hu,Qk9 hS hU hρ cs vs fp hr⟩
 | .fn g cs,u,fp,h=>by
  simp only [Qe3,repR] at h ⊢
  obtain ⟨vs,hu,hr⟩:=h
  exact ⟨vs,hu,Qk9 hS hU hρ cs vs fp hr⟩
 | .dead,u,fp,h=>by simp only [Qe3,repR] at h ⊢; exact Qbl _ u fp h hS (fun _ _=>rfl) (fun _ _=>rfl)
 | .lit _,u,fp,h=>by simp only [Qe3,repR] at h ⊢; exact Qbl _ u fp h hS (fun _ _=>rfl) (fun _ _=>rfl)
 | .ro _ _,u,fp,h=>by simp only [Qe3,repR] at h ⊢; exact Qbl _ u fp h hS (fun _ _=>rfl) (fun _ _=>rfl)
 | .own _ _ _,u,fp,h=>by simp only [Qe3,repR] at h ⊢; exact Qbl _ u fp h hS (fun _ _=>rfl) (fun _ _=>rfl)
 | .rop _ _,u,fp,h=>by simp only [Qe3,repR] at h ⊢; exact Qbl _ u fp h hS (fun _ _=>rfl) (fun _ _=>rfl)
theorem Qk9 {w:World} {S S2 U U2:Nat→Prop} {ρ ρ2:Tab} {π:List (Nat×Nat)} (hS : ∀ b,S b→S2 b) (hU : ∀ i j,π.lookup i=some j→U2 j) (hρ : ∀ i j,π.lookup i=some j→ρ2 j=ρ i) : ∀ (cs:List AV) (vs:List Value) (fp:List Nat),Qah w S U ρ cs vs fp→Qah w S2 U2 ρ2 (Xe6 π cs) vs fp
 | [],_,_,h=>by simpa only [Xe6,Qah] using h
 | c :: cs,vs,fp,h=>by
  simp only [Xe6,Qah] at h ⊢
  obtain ⟨u,us,f1,f2,hv,rfl,h1,h2⟩:=h
  exact ⟨u,us,f1,f2,hv,rfl,Qpl hS hU hρ c u f1 h1,Qk9 hS hU hρ cs us f2 h2⟩
end
theorem Qrd {w:World} {S S2 U U2:Nat→Prop} {ρ ρ2:Tab} {π:List (Nat×Nat)} {sz:Nat} (hS : ∀ b,S b→S2 b) (hU : ∀ i j,π.lookup i=some j→U2 j) (hρ : ∀ i j,π.lookup i=some j→ρ2 j=ρ i) : ∀ (xs:List (List AV)) (vs:List Value) (fp:List Nat),Qao w S U ρ sz xs vs fp→Qao w S2 U2 ρ2 sz (Qqq π xs) vs fp
 | [],_,_,h=>by simpa only [Qqq,List.map,Qao] using h
 | x :: xs,vs,fp,h=>by
  simp only [Qqq,List.map,Qao] at h ⊢
  obtain ⟨us,us',f1,f2,hv,rfl,hl,h1c,h1,h2⟩:=h
  exact ⟨us,us',f1,f2,hv,rfl,hl,h1c,Qk9 hS hU hρ x us f1 h1,Qrd hS hU hρ xs us' f2 h2⟩
def Xg6 (π:List (Nat×Nat)) (R:Qae) : Qae:=⟨R.T,R.sz,Qqq π R.xs⟩
def swp (π:List (Nat×Nat)) : List (Nat×Nat):=π.map fun p=>(p.2,p.1)
def St.ren (s:St) (π:List (Nat×Nat)) (ts:List Nat) : St:=
 ⟨ts.map (fun t=>(t,Qe3 π (s.get t))),π.map (fun p=>(p.2,(s.root p.1).map (Xg6 π))),π.map (·.2)++[JJ]⟩
theorem Qts {π:List (Nat×Nat)} (hn:(π.map (·.1)).Nodup) {i j:Nat} (h:(i,j)∈π) : π.lookup i=some j:=by
 induction π with
 | nil=>cases h
 | cons p r ih =>
  obtain ⟨x,y⟩:=p
  simp only [List.map_cons,List.nodup_cons] at hn
  rcases List.mem_cons.1 h with e | e
  ·cases e;exact Qan _ _ _
  ·have:i≠x:=by
    rintro rfl
    exact hn.1 (List.mem_map.2 ⟨(i,j),e,rfl⟩)
   rw [Qaf this]
   exact ih hn.2 e
theorem Qio {π:List (Nat×Nat)} {i j:Nat} (h : π.lookup i=some j) : (i,j)∈π:=by
 induction π with
 | nil=>simp at h
 | cons p r ih =>
  obtain ⟨x,y⟩:=p
  by_cases e:i=x
  ·subst e;rw [Qan] at h;cases h;exact List.mem_cons_self
  ·rw [Qaf e] at h;exact List.mem_cons_of_mem _ (ih h)
theorem Xhz (E:Env) (s:St) (π:List (Nat×Nat)) (ts:List Nat) (h1:(π.map (·.1)).Nodup) (h2:(π.map (·.2)).Nodup) (hJ:JJ ∉ π.map (·.2)) (hJ1:JJ ∉ π.map (·.1)) (hfx : ∀ p,p∈E.fx→π.lookup p.1=some p.1) : Ent E s (s.ren π ts):=by
  rintro a w ⟨χ,hd,h⟩
  have hsw:((swp π).map (·.1)).Nodup:=by simpa [swp,List.map_map,Function.comp_def] using h2
  let χ':Nat→Option Nat:=fun b=>(χ b).map fun r=>(π.lookup r).getD JJ
  let hd':Nat→Value:=fun j=>hd (((swp π).lookup j).getD 0)
  have hfree : ∀ b,Qbg χ w b↔Qbg χ' w b:=by
    intro b
    simp only [Qbg,χ',Option.map_eq_none_iff]
  have hroot : ∀ j,((swp π).lookup j=none→(s.ren π ts).root j=none)∧(∀ i,(swp π).lookup j=some i→(s.ren π ts).root j=(s.root i).map (Xg6 π)):=by
    intro j
    simp only [St.root,St.ren,swp]
    have hx : ∀ l:List (Nat×Nat),((l.map fun p=>(p.2,p.1)).lookup j=none→((l.map (fun p=>(p.2,((s.rt.lookup p.1).getD none).map (Xg6 π)))).lookup j).getD none=none)∧(∀ i,(l.map fun p=>(p.2,p.1)).lookup j=some i→((l.map (fun p=>(p.2,((s.rt.lookup p.1).getD none).map (Xg6 π)))).lookup j).getD none=((s.rt.lookup i).getD none).map (Xg6 π)):=by
      intro l
      induction l with
      | nil=>simp
      | cons p r ih =>
        simp only [List.map_cons]
        by_cases e:j=p.2
        · subst e;rw [Qan,Qan];simp
        · rw [Qaf e,Qaf e];exact ih
    exact hx π
  have hπ : ∀ i j,π.lookup i=some j→(swp π).lookup j=some i:=fun i j hij=>Qts hsw (by
    have:=Qio hij
    exact List.mem_map.2 ⟨(i,j),this,rfl⟩)
  have hπ' : ∀ i j,(swp π).lookup j=some i→π.lookup i=some j:=fun i j hij=>Qts h1 (by
    have:=Qio hij
    obtain ⟨p,hp,e⟩:=List.mem_map.1 this
    cases e;exact hp)
  have hU : ∀ i j,π.lookup i=some j→j∈(s.ren π ts).us:=fun i j hij=>by
    show j∈π.map (·.2)++[JJ]
    exact List.mem_append_left _ (List.mem_map.2 ⟨(i,j),Qio hij,rfl⟩)
  have hρ : ∀ i j,π.lookup i=some j→tab (s.ren π ts) hd' j=tab s hd i:=by
    intro i j hij
    have hs:=hπ _ _ hij
    simp only [tab,(hroot j).2 i hs,hd',hs,Option.getD_some,Option.map_map,Function.comp_def,Xg6,Qqq,List.length_map]
  refine ⟨χ',hd',h.defers,h.size,h.os,h.tape,h.output,h.hsz,h.frame,fun p hv=>by
    refine ⟨hU _ _ (hfx p hv),?_⟩
    show hd (((swp π).lookup p.1).getD 0)=p.2
    rw [hπ _ _ (hfx p hv)]
    exact (h.fx p hv).2,?_,?_,?_,?_,?_,?_⟩
  · show JJ∈π.map (·.2)++[JJ]
    simp
  · refine (hroot JJ).1 ?_
    cases hl:(swp π).lookup JJ with
    | none=>rfl
    | some i=>exact absurd (List.mem_map.2 ⟨(i,JJ),Qio (hπ' _ _ hl),rfl⟩) hJ
  · intro b hb
    have : π.lookup JJ=none:=by
      cases hl : π.lookup JJ with
      | none=>rfl
      | some i=>exact absurd (List.mem_map.2 ⟨(JJ,i),Qio hl,rfl⟩) hJ1
    simp [χ',h.jk b hb,this]
  · intro b r hb
    simp only [χ',Option.map_eq_some_iff] at hb
    obtain ⟨q,hq,hr⟩:=hb
    refine ⟨fun hne=>?_,(h.col b q hq).2⟩
    refine (h.col b q hq).1 (fun e=>?_)
    subst e
    cases hl : π.lookup JJ with
    | none=>rw [hl] at hr;exact hne hr.symm
    | some i=>exact absurd (List.mem_map.2 ⟨(JJ,i),Qio hl,rfl⟩) hJ1
  · intro j R hR
    cases hl:(swp π).lookup j with
    | none=>rw [(hroot j).1 hl] at hR;cases hR
    | some i =>
      rw [(hroot j).2 i hl] at hR
      obtain ⟨R0,hR0,rfl⟩:=Option.map_eq_some_iff.1 hR
      have hij:=hπ' _ _ hl
      refine ⟨hU _ _ hij,?_⟩
      obtain ⟨_,fp,⟨hz,vs,fp',ho,hr,rfl⟩,hnd,hcol⟩:=h.rts i R0 hR0
      refine ⟨_,⟨hz,vs,fp',?_,Qrd (fun b hb=>(hfree b).1 hb) hU hρ _ _ _ hr,rfl⟩,?_,?_⟩
      · simp only [Xg6,Qqq,List.length_map,hd',hl,Option.getD_some];exact ho
      · simpa only [hd',hl,Option.getD_some] using hnd
      · intro b hb
        simp only [hd',hl,Option.getD_some] at hb
        simp [χ',hcol b hb,hij]
  · intro t
    have:(s.ren π ts).get t=if t∈ts then Qe3 π (s.get t) else .dead:=by
      unfold St.ren
      show ((ts.map fun t=>(t,Qe3 π (s.get t))).lookup t).getD .dead=_
      rw [Qpt (fun t=>Qe3 π (s.get t))]
      split <;> rfl
    rw [this]
    split
    · exact Qpl (fun b hb=>(hfree b).1 hb) hU hρ _ _ _ (h.slots t)
    · exact Qdk _
theorem Xhs (E:Env) (s:St) (t id T sz:Nat) (hid':s.us.contains id=false) (hsz : 0<sz) (ht:s.get t = .lit (.slice none 0 0)) : Ent E s ((s.add id ⟨T,sz,[]⟩).put t (.sl id 0 0)):=by
 have hid:id ∉ s.us:=by simpa using hid'
 rintro a w ⟨χ,hd,h⟩
 have hiJ:id≠JJ:=by rintro rfl;exact hid h.jj
 have hs:=h.slots t
 rw [ht] at hs
 have hs:=Qgh hs
 let hd':Nat→Value:=fun j=>if j=id then .slice none 0 0 else hd j
 have htab : ∀ i,i∈s.us→∀ x,tab (s.add id ⟨T,sz,[]⟩) hd' i=some x→tab s hd i=some x:=by
  intro i hi x hx
  have hne:i≠id:=by rintro rfl;exact hid hi
  simpa [tab,St.root_add_ne s hne,hd',hne] using hx
 have hUU : ∀ i,i∈s.us→i∈(s.add id ⟨T,sz,[]⟩).us:=fun i hi=>List.mem_cons_of_mem _ hi
 refine ⟨χ,hd',h.defers,h.size,h.os,h.tape,h.output,h.hsz,h.frame,Qxr (R:=⟨T,sz,[]⟩) h.fx hid,hUU _ h.jj,?_,h.jk,h.col,?_,?_⟩
 ·show (s.add id ⟨T,sz,[]⟩).root JJ=none
  rw [St.root_add_ne s (Ne.symm hiJ)];exact h.rj
 ·intro i R hR
  by_cases e:i=id
  ·subst e
   have:R=⟨T,sz,[]⟩:=by
    have h0:((s.add i ⟨T,sz,[]⟩).put t (.sl i 0 0)).root i=some ⟨T,sz,[]⟩:=St.root_add_same s i _
    rw [h0] at hR;cases hR;rfl
   subst this
   refine ⟨List.mem_cons_self,[],⟨hsz,[],[],?_,by simp [Qao],by simp [hd',Value.ownBlock]⟩,List.nodup_nil,by simp⟩
   simp only [hd',if_pos]
   exact ⟨by simp,.inl ⟨rfl,rfl⟩⟩
  ·have hR':s.root i=some R:=by rw [← St.root_add_ne s e ⟨T,sz,[]⟩];exact hR
   obtain ⟨hi,fp,hr,hnd,hcol⟩:=h.rts i R hR'
   refine ⟨hUU _ hi,fp,?_,hnd,hcol⟩
   simp only [hd',if_neg e]
   exact hr.mono (fun _ hb=>hb) (fun _ _=>rfl) (fun _ _=>rfl) hUU htab
 ·intro t'
  by_cases e:t'=t
  ·subst e
   rw [St.get_put_same,hs]
   simp only [repR]
   refine ⟨trivial,List.mem_cons_self,?_⟩
   intro h' n' sz' hh
   have h1:tab ((s.add id ⟨T,sz,[]⟩).put t' (.sl id 0 0)) hd' id=some (.slice none 0 0,0,sz):=by
    simp only [tab,St.root_put,St.root_add_same,Option.map_some,hd',if_pos,List.length_nil]
   rw [h1] at hh
   cases hh
   exact ⟨Nat.le_refl _,⟨none,0,rfl,Nat.le_refl _,fun _=>⟨0,rfl⟩,fun hp=>absurd hp (by omega)⟩,Nat.zero_le _⟩
  ·rw [St.get_put_ne _ e]
   have:=h.slots t'
   exact Qcd _ _ _ this (fun _ hb=>hb) (fun _ _=>rfl) (fun _ _=>rfl) hUU htab
end Go.T
