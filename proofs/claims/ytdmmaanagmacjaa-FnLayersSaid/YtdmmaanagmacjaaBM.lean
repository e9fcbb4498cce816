/- Lemmas for FnLayers; no condition. -/

import Derived.Test.YtdmmaanagmacjaaBB
import Derived.Test.YtdmmaanagmacjaaTZB
set_option linter.unusedVariables false
namespace Go.T
open Go Go.RowKit Go.Proofs
def XE (X Y:Xs) : Prop:=(∀ i,X.1.lookup i=Y.1.lookup i)∧∀ i,i∈X.2↔i∈Y.2
theorem XE.refl (X:Xs) : XE X X:=⟨fun _=>rfl,fun _=>Iff.rfl⟩
theorem XE.trans {X Y Z:Xs} (h:XE X Y) (k:XE Y Z) : XE X Z:=⟨fun i=>(h.1 i).trans (k.1 i),fun i=>(h.2 i).trans (k.2 i)⟩
theorem Qci.xe {E:Env} {sl:List (Nat×AV)} {X Y:Xs} (e:XE X Y) {a:Act} {w:World} {χ:Nat→Option Nat} {hd:Nat→Value} (h:Qci E ⟨sl,X.1,X.2⟩ a w χ hd) : Qci E ⟨sl,Y.1,Y.2⟩ a w χ hd:=by
 have hr : ∀ i,(⟨sl,Y.1,Y.2⟩ : St).root i=(⟨sl,X.1,X.2⟩ : St).root i:=fun i=>by simp only [St.root,e.1 i]
 have ht:tab ⟨sl,Y.1,Y.2⟩ hd=tab ⟨sl,X.1,X.2⟩ hd:=by funext i;simp [tab,hr]
 have hU:(fun i=>i∈(⟨sl,Y.1,Y.2⟩ : St).us)=(fun i=>i∈(⟨sl,X.1,X.2⟩ : St).us):=by
  funext i;exact propext (e.2 i).symm
 refine ⟨h.defers,h.size,h.os,h.tape,h.output,h.hsz,h.frame,fun p hp=>⟨(e.2 _).1 (h.fx p hp).1,(h.fx p hp).2⟩,(e.2 _).1 h.jj,by rw [hr];exact h.rj,h.jk,h.col,?_,?_⟩
 ·intro i R hR
  rw [hr] at hR
  obtain ⟨h1,h2⟩:=h.rts i R hR
  refine ⟨(e.2 _).1 h1,?_⟩
  rw [hU,ht];exact h2
 ·intro t
  rw [hU,ht];exact h.slots t
theorem STo.xe {E:Env} {ops:Array Oper} {o:Oper} {sl:List (Nat×AV)} {X Y Z:Xs} {d:Nat} {r:AV} (h:STo E ops o sl X Y d r) (e:XE Y Z) : STo E ops o sl X Z d r:=by
 intro sl2 hle a w Q K hr hk
 exact h sl2 hle a w Q K hr (fun a' w' hr'=>hk a' w' (by obtain ⟨χ,hd,h0⟩:=hr';exact ⟨χ,hd,h0.xe e⟩))
def Qoe (l:List (Nat×Option Qae)) : List Nat:=l.map (·.1)
def adX:Xs→List (Nat×Option Qae)→Xs
 | X,[]=>X
 | X,(i,R) :: l=>adX ((i,R) :: X.1,i :: X.2) l
def sm (p:Nat×Qae) : Nat×Option Qae:=(p.1,some p.2)
theorem Qrs : ∀ (l:List (Nat×Qae)) (X:Xs),adX X (l.map sm)=Xet X l
 | [],X=>rfl
 | (i,R) :: l,X=>by
  rw [List.map_cons,Xet,← Qrs l];rfl
theorem Qtj : ∀ (l:List (Nat×Option Qae)) (X:Xs),adX X l=(l.reverse++X.1,(Qoe l).reverse++X.2)
 | [],X=>by simp [adX,Qoe]
 | (i,R) :: l,X=>by
  rw [adX,Qtj l]
  simp [Qoe]
theorem Qkh {β:Type} {i:Nat} : ∀ {l:List (Nat×β)},i ∉ l.map (·.1)→l.lookup i=none
 | [],h=>rfl
 | (j,x) :: l,h=>by
  simp only [List.map_cons,List.mem_cons,not_or] at h
  rw [Qaf h.1]
  exact Qkh h.2
theorem XE.add {X Y:Xs} (h:XE X Y) (l:List (Nat×Option Qae)) : XE (adX X l) (adX Y l):=by
 rw [Qtj,Qtj]
 refine ⟨fun i=>?_,fun i=>?_⟩
 ·simp only [List.lookup_append,h.1 i]
 ·simp only [List.mem_append,h.2 i]
theorem XE.swap {X:Xs} {a l:List (Nat×Option Qae)} (hd : ∀ i∈Qoe a,i ∉ Qoe l) : XE (adX (adX X a) l) (adX (adX X l) a):=by
  simp only [Qtj]
  refine ⟨fun i=>?_,fun i=>?_⟩
  · simp only [List.lookup_append]
    by_cases hi:i∈Qoe a
    · have:=Qkh (i:=i) (l:=l.reverse) (by
        have:=hd i hi
        simpa [Qoe] using this)
      rw [this];simp
    · have:=Qkh (i:=i) (l:=a.reverse) (by simpa [Qoe] using hi)
      rw [this];simp
  · simp only [List.mem_append]
    constructor
    · rintro (h | h | h)
      · exact .inr (.inl h)
      · exact .inl h
      · exact .inr (.inr h)
    · rintro (h | h | h)
      · exact .inr (.inl h)
      · exact .inl h
      · exact .inr (.inr h)
def stB (X:Xs) : List (List (Nat×Option Qae))→List Bool→Xs
 | l :: Ls,true :: bs=>stB (adX X l) Ls bs
 | _ :: Ls,false :: bs=>stB X Ls bs
 | _,_=>X
theorem Xea : ∀ (Ls:List (List (Nat×Option Qae))) (bs:List Bool) {X Y:Xs},XE X Y→XE (stB X Ls bs) (stB Y Ls bs)
 | [],_,X,Y,h=>by simpa only [stB] using h
 | l :: Ls,[],X,Y,h=>by simpa only [stB] using h
 | l :: Ls,true :: bs,X,Y,h=>by simp only [stB];exact Xea Ls bs (h.add l)
 | l :: Ls,false :: bs,X,Y,h=>by simp only [stB];exact Xea Ls bs h
theorem Qya : ∀ (Ls:List (List (Nat×Option Qae))) (bs:List Bool) (X:Xs) (l:List (Nat×Option Qae)),(∀ p∈Ls.zip bs,p.2=true→∀ i∈Qoe l,i ∉ Qoe p.1)→XE (adX (stB X Ls bs) l) (stB (adX X l) Ls bs)
 | [],_,X,l,h=>by simp only [stB];exact XE.refl _
 | L :: Ls,[],X,l,h=>by simp only [stB];exact XE.refl _
 | L :: Ls,true :: bs,X,l,h=>by
  simp only [stB]
  refine (Qya Ls bs (adX X L) l (fun M hM=>h M (List.mem_cons_of_mem _ hM))).trans (Xea Ls bs (XE.swap ?_))
  intro i hi hl
  exact h (L,true) List.mem_cons_self rfl i hl hi
 | L :: Ls,false :: bs,X,l,h=>by
  simp only [stB]
  exact Qya Ls bs X l (fun M hM=>h M (List.mem_cons_of_mem _ hM))
def Xh8 (A:List (List Nat)) : List Nat→List (List (Nat×Option Qae))→Bool
 | k :: Ms,l :: Ls=>((Ms.zip Ls).all fun p=>(Qqc A p.1).contains k || (Qoe l).all fun j => !(Qoe p.2).contains j) && Xh8 A Ms Ls
 | _,_=>true
theorem Qp1 {i:Nat} : ∀ {Ms:List Nat} {bs:List Bool},i ∉ Ms→bs.length=Ms.length→Xaa i Ms bs=bs
 | [],[],_,_=>rfl
 | [],b :: bs,_,h=>by simp at h
 | k :: Ms,[],_,h=>by simp at h
 | k :: Ms,b :: bs,hi,h=>by
  simp only [List.mem_cons,not_or] at hi
  simp only [Xaa,List.zip_cons_cons,List.map_cons]
  have:=Qp1 hi.2 (by simpa using h)
  simp only [Xaa] at this
  rw [this]
  have e:(k == i)=false:=by simp;exact fun e=>hi.1 e.symm
  rw [e,Bool.or_false]
theorem Qvp {A:List (List Nat)} {i:Nat} {L:List (Nat×Option Qae)} : ∀ {Ms:List Nat} {Ls:List (List (Nat×Option Qae))} {bs:List Bool} {X:Xs},Ms.Nodup→Ls.length=Ms.length→bs.length=Ms.length→Xh8 A Ms Ls=true→(Ms.zip Ls).lookup i=some L→(∀ p∈Ms.zip bs,p.1=i∨(Qqc A p.1).contains i=true→p.2=false) →
  XE (adX (stB X Ls bs) L) (stB X Ls (Xaa i Ms bs))
 | [],Ls,bs,X,_,_,_,_,h,_=>by simp at h
 | k :: Ms,[],bs,X,_,h,_,_,_,_=>by simp at h
 | k :: Ms,l :: Ls,[],X,_,_,h,_,_,_=>by simp at h
 | k :: Ms,l :: Ls,b :: bs,X,hn,h1,h2,h3,h4,h5=>by
  obtain ⟨hk,hn⟩:=List.nodup_cons.1 hn
  have h1':Ls.length=Ms.length:=by simpa using h1
  have h2':bs.length=Ms.length:=by simpa using h2
  simp only [Xh8,Bool.and_eq_true] at h3
  have h3d:=List.all_eq_true.1 h3.1
  have en:Xaa i (k :: Ms) (b :: bs)=(b || k == i) :: Xaa i Ms bs:=rfl
  rw [en]
  by_cases hik:i=k
  ·subst hik
   have hb:b=false:=h5 (i,b) (by simp) (.inl rfl)
   subst hb
   rw [List.zip_cons_cons,Qan] at h4
   cases h4
   rw [Qp1 hk h2']
   simp only [beq_self_eq_true,Bool.or_true,stB]
   refine Qya Ls bs X _ fun p hp hpt j hj hj2=>?_
   obtain ⟨q,hq⟩:=List.mem_iff_getElem?.1 hp
   rw [List.getElem?_zip_eq_some] at hq
   obtain ⟨m,hm⟩ : ∃ m,Ms[q]? = some m:=⟨Ms[q]'(by have:=(List.getElem?_eq_some_iff.1 hq.1).1;omega),by simp⟩
   have hmem:(m,p.1)∈Ms.zip Ls:=List.mem_of_getElem? (i:=q) (by rw [List.getElem?_zip_eq_some];exact ⟨hm,hq.1⟩)
   have hmb:(m,p.2)∈Ms.zip bs:=List.mem_of_getElem? (i:=q) (by rw [List.getElem?_zip_eq_some];exact ⟨hm,hq.2⟩)
   have h6:=h3d _ hmem
   rw [Bool.or_eq_true] at h6
   rcases h6 with h6 | h6
   ·have:=h5 (m,p.2) (by rw [List.zip_cons_cons];exact List.mem_cons_of_mem _ hmb) (.inr h6)
    rw [hpt] at this;cases this
   ·have:=List.all_eq_true.1 h6 j hj
    simp at this
    exact this hj2
  ·rw [List.zip_cons_cons,Qaf hik] at h4
   have e:(k == i)=false:=by simp;exact fun e=>hik e.symm
   rw [e,Bool.or_false]
   have h5' : ∀ p∈Ms.zip bs,p.1=i∨(Qqc A p.1).contains i=true→p.2=false:=fun p hp=>h5 p (by rw [List.zip_cons_cons];exact List.mem_cons_of_mem _ hp)
   cases b
   ·simp only [stB]
    exact Qvp hn h1' h2' h3.2 h4 h5'
   ·simp only [stB]
    exact Qvp hn h1' h2' h3.2 h4 h5'
theorem Qtv {β:Type} {i:Nat} : ∀ {l:List (Nat×β)},(l.map (·.1)).Nodup→l.reverse.lookup i=l.lookup i
 | [],_=>rfl
 | (j,x) :: l,h=>by
  rw [List.map_cons,List.nodup_cons] at h
  rw [List.reverse_cons,List.lookup_append,Qtv h.2]
  by_cases e:i=j
  ·subst e
   rw [Qkh h.1]
   simp [List.lookup]
  ·have:(i == j)=false:=by simpa using e
   simp [List.lookup,this]
theorem Qwh : ∀ (ρ:List Nat) (ks:List Bool) (rs:List Qae),∃ t,ρ=(Qk0 ρ ks rs).map (·.1)++t
 | [],_,_=>⟨[],by simp [Qk0]⟩
 | i :: ρ,[],_=>⟨i :: ρ,by simp [Qk0]⟩
 | i :: ρ,_ :: _,[]=>⟨i :: ρ,by simp [Qk0]⟩
 | i :: ρ,k :: ks,R :: rs=>by
  obtain ⟨t,e⟩:=Qwh ρ ks rs
  refine ⟨t,?_⟩
  rw [Qk0,List.map_cons,List.cons_append,← e]
theorem Xil {ρ:List Nat} {ks:List Bool} {rs:List Qae} {rt:List (Nat×Option Qae)} {us:List Nat} {l:List (Nat×Qae)} (hn:ndB ρ=true) (hu : ρ.all (us.contains ·)=true) : XE (Xet (Qk0 ρ ks rs++rt,us) l) (adX (rt,us) (Qk0 ρ ks rs++l.map sm)):=by
 rw [← Qrs,Qtj,Qtj]
 obtain ⟨t,e⟩:=Qwh ρ ks rs
 have hnd:((Qk0 ρ ks rs).map (·.1)).Nodup:=by
  have:=Qlh hn
  rw [e,List.nodup_append] at this
  exact this.1
 refine ⟨fun i=>?_,fun i=>?_⟩
 ·simp only [List.reverse_append,List.append_assoc,List.lookup_append,Qtv hnd]
 ·have hk : ∀ x,x∈Qoe (Qk0 ρ ks rs)→x∈us:=by
   intro x hx
   have h1:x∈ρ:=by rw [e];exact List.mem_append_left _ hx
   have:=(List.all_eq_true.1 hu) x h1
   simpa using this
  simp only [Qoe,List.map_append,List.reverse_append,List.mem_append,List.mem_reverse]
  constructor
  ·rintro (h | h)
   ·exact .inl (.inl h)
   ·exact .inr h
  ·rintro ((h | h) | h)
   ·exact .inl h
   ·exact .inr (hk i h)
   ·exact .inr h
def exML (Θ:Tys) (P:PK) (n:Nat) (s:St) (o:Oper) (d:Nat) (h:Hn) : Option (AV×List (Nat×Option Qae)×List Prop):=
 if d<n then if Qjo s o.op then match h.h with
  | .callR zss res ids x' l=>if frB s.us ids then match o.op with
   | .call ⟨.value x,args,_⟩=>match Qal s x with
    | .fn f caps=>match Qke s [] (args.toList.map (Qal s)++caps) zss with
     | some (outs,ps,[])=>some (x',l.map sm,Qab P.p f outs res :: (Qez res=true) :: ((rtf res ids).1=x') :: ((rtf res ids).2.1=l) :: ps)
     | _=>none
    | _=>none
   | _=>none
   else none
  | .call zss res ids=>if frB s.us ids then match o.op with
   | .call ⟨.value x,args,_⟩=>match Qal s x with
    | .fn f caps=>match Qke s [] (args.toList.map (Qal s)++caps) zss with
     | some (outs,ps,[])=>some ((ovr (rtf res ids).1 h.o).1,(rtf res ids).2.1.map sm,Qab P.p f outs res :: (Qez res=true) :: ((ovr (rtf res ids).1 h.o).2++ps))
     | _=>none
    | _=>none
   | _=>none
   else none
  | .callX ρ ks rs rs' zss res ids x' l=>if (ndB ρ && (ks.length == ρ.length) && Qpv rs rs' && frB s.us ids) && ρ.all (s.us.contains ·) then match o.op with
   | .call ⟨.value x,args,_⟩=>match Qal s x with
    | .fn f caps=>match Qke s ρ.zipIdx (args.toList.map (Qal s)++caps) zss with
     | some (outs,ps,[])=>some (x',Qk0 ρ ks rs'++l.map sm,Qaw P f rs outs ks rs' res :: Qqg s ρ rs :: Xl0 rs :: Xbb rs rs' :: ((rtf (Qe3 (Qm0 ρ ks) res) ids).1=x') :: ((rtf (Qe3 (Qm0 ρ ks) res) ids).2.1=l) :: ps)
     | _=>none
    | _=>none
   | _=>none
   else none
  | .callS res ids x' l=>if frB s.us ids then match o.op with
   | .call ⟨.value x,args,_⟩=>match Qal s x with
    | .fn f caps=>some (x',l.map sm,[Qab P.p f (args.toList.map (Qal s)++caps) res,Qeq (args.toList.map (Qal s)++caps)=true,(rtf res ids).1=x',(rtf res ids).2.1=l])
    | _=>none
   | _=>none
   else none
  | .api=>none
  | .app id zs=>if frB s.us [id] then match o.op with
   | .call ⟨.builtin .append,args,tys⟩=>match args.toList,tys.toList with
    | [x,y],[t,t']=>if t=t' then match Θ.lookup t with
     | some ⟨_,_,.slice el,_⟩=>match Θ.lookup el with
      | some te=>if zOK te then match Qpc s el te.sz (Qal s x),Qpd s te.sz (Qal s y) with
       | some (xs,k),some ys=>match k with
        | some j=>if s.us.contains j then some (.sl id 0 zs.length,[(j,none),(id,some ⟨el,te.sz,zs⟩)],[xs++ys=zs,ys.all (fun r=>r.all AV.plain)=true,zs.length * te.bytes≤140737488355328,zs.length≤140737488355328]) else none
        | none=>some (.sl id 0 zs.length,[(id,some ⟨el,te.sz,zs⟩)],[xs++ys=zs,ys.all (fun r=>r.all AV.plain)=true,zs.length * te.bytes≤140737488355328,zs.length≤140737488355328])
       | _,_=>none
       else none
      | none=>none
     | _=>none
     else none
    | _,_=>none
   | _=>none
   else none
  | hh=>match idOf hh with
   | some id=>if frB s.us [id] then match Xko Θ s o.op hh id with
    | some (R,r,ps)=>some ((ovr r h.o).1,[(id,(Qkg R hh).1)].map sm,(Qkg R hh).2++((ovr r h.o).2++ps))
    | none=>none
    else none
   | none=>none
  else none
 else none
theorem Xgb {Θ:Tys} {P:PK} {n:Nat} {s:St} {o:Oper} {d:Nat} {h:Hn} {r:AV} {l:List (Nat×Option Qae)} {ps:List Prop} (he:exML Θ P n s o d h=some (r,l,ps)) : ∃ Y,exM Θ P n s o d h=some (r,Y,ps)∧XE Y (adX (s.rt,s.us) l):=by
 unfold exML at he
 unfold exM
 split at he
 case isFalse=>cases he
 rename_i h1
 rw [if_pos h1]
 split at he
 case isFalse=>cases he
 rename_i h2
 rw [if_pos h2]
 split at he
 ·rename_i zss res ids x' l' hh
  split at he
  case isFalse=>cases he
  rename_i h3
  simp only [hh,if_pos h3]
  split at he
  case h_2=>cases he
  rename_i hop
  simp only [hop]
  split at he
  case h_2=>cases he
  rename_i hx
  simp only [hx]
  split at he
  case h_2=>cases he
  rename_i ho
  simp only [ho]
  cases he
  exact ⟨_,rfl,by rw [Qrs];exact XE.refl _⟩
 ·rename_i zss res ids hh
  split at he
  case isFalse=>cases he
  rename_i h3
  simp only [hh,if_pos h3]
  split at he
  case h_2=>cases he
  rename_i hop
  simp only [hop]
  split at he
  case h_2=>cases he
  rename_i hx
  simp only [hx]
  split at he
  case h_2=>cases he
  rename_i ho
  simp only [ho]
  cases he
  exact ⟨_,rfl,by rw [Qrs];exact XE.refl _⟩
 ·rename_i ρ ks rs rs' zss res ids x' l' hh
  split at he
  case isFalse=>cases he
  rename_i h3
  obtain ⟨h3,h4⟩:=Bool.and_eq_true_iff.1 h3
  simp only [hh,if_pos h3]
  split at he
  case h_2=>cases he
  rename_i hop
  simp only [hop]
  split at he
  case h_2=>cases he
  rename_i hx
  simp only [hx]
  split at he
  case h_2=>cases he
  rename_i ho
  simp only [ho]
  cases he
  simp only [Bool.and_eq_true] at h3
  exact ⟨_,rfl,Xil h3.1.1.1 h4⟩
 ·rename_i res ids x' l' hh
  split at he
  case isFalse=>cases he
  rename_i h3
  simp only [hh,if_pos h3]
  split at he
  case h_2=>cases he
  rename_i hop
  simp only [hop]
  split at he
  case h_2=>cases he
  rename_i hx
  simp only [hx]
  cases he
  exact ⟨_,rfl,by rw [Qrs];exact XE.refl _⟩
 ·cases he
 ·rename_i id zs hh
  split at he
  case isFalse=>cases he
  rename_i h3
  simp only [hh,if_pos h3]
  split at he
  case h_2=>cases he
  rename_i args tys hop
  simp only [hop]
  split at he
  case h_2=>cases he
  rename_i x y t t' ha ht
  simp only [ha,ht]
  split at he
  case isFalse=>cases he
  rename_i htt
  rw [if_pos htt]
  split at he
  case h_2=>cases he
  rename_i el _ hti
  simp only [hti]
  split at he
  case h_2=>cases he
  rename_i te hte
  simp only [hte]
  split at he
  case isFalse=>cases he
  rename_i hz
  rw [if_pos hz]
  split at he
  case h_2=>cases he
  rename_i xs k ys hd hs
  simp only [hd,hs]
  split at he
  ·rename_i j
   split at he
   case isFalse=>cases he
   rename_i hj
   cases he
   refine ⟨_,rfl,fun i=>rfl,fun i=>?_⟩
   simp only [adX,St.killO,St.kill,St.add,List.mem_cons]
   simp at hj
   constructor
   ·rintro (h | h)
    ·exact .inl h
    ·exact .inr (.inr h)
   ·rintro (h | h | h)
    ·exact .inl h
    ·exact .inr (by rw [h];exact hj)
    ·exact .inr h
  ·cases he
   exact ⟨_,rfl,XE.refl _⟩
 ·rename_i hh hn1 hn2 hn3 hn4
  split at he
  case h_2=>cases he
  rename_i id hid
  split at he
  case isFalse=>cases he
  rename_i h3
  split at he
  case h_2=>cases he
  rename_i R r0 qs hnw
  cases he
  cases hh0:h.h <;> simp only [hh0,idOf] at hid hnw h3 ⊢ <;> first | (cases hid;done) | (cases hid;simp only [if_pos h3,hnw];exact ⟨_,rfl,XE.refl _⟩)
def exSt (Θ:Tys) (s:St) (o:Oper) (h:Hn) : Option (List (Nat×Option Qae)×List Prop):=
 if Qjo s o.op then match o.op,o.dst with
 | .store t p y,none=>match Θ.lookup t,Qal s p with
  | some ti,.ptr i e oo=>if s.us.contains i then match s.root i with
   | some R=>match h.h with
    | .sto x xs'=>if (cellsOf (Qal s y)).all (Qeh s) then some ([(i,some ⟨R.T,R.sz,xs'⟩)],[R.xs[e]? = some x,R.xs.set e (wr x oo (cellsOf (Qal s y)))=xs',(cellsOf (Qal s y)).length=ti.sz,oo+(cellsOf (Qal s y)).length≤x.length]) else none
    | .stoS x xs'=>some ([(i,some ⟨R.T,R.sz,xs'⟩)],[R.xs[e]? = some x,R.xs.set e (wr x oo (cellsOf (Qal s y)))=xs',(cellsOf (Qal s y)).length=ti.sz,oo+(cellsOf (Qal s y)).length≤x.length,(cellsOf (Qal s y)).all Qjb=true])
    | .no=>match R.xs[e]? with
     | some x=>if (cellsOf (Qal s y)).all (Qeh s) then (if (cellsOf (Qal s y)).length=ti.sz then (if oo+(cellsOf (Qal s y)).length≤x.length then some ([(i,some ⟨R.T,R.sz,R.xs.set e (wr x oo (cellsOf (Qal s y)))⟩)],[]) else none) else none) else none
     | none=>none
    | _=>none
   | none=>none
   else none
  | _,_=>none
 | _,_=>none
 else none
theorem Xba {E:Env} {Θ:Tys} (hΘ:TOK E.P Θ) {sl:List (Nat×AV)} {X:Xs} {o:Oper} {h:Hn} {L:List (Nat×Option Qae)} {ps:List Prop} (he:exSt Θ ⟨sl,X.1,X.2⟩ o h=some (L,ps)) (hp:Qb0 ps) :
  ∃ Y,XE Y (adX X L)∧∀ sl2,Qrx sl sl2→Qm5 E o ⟨sl2,X.1,X.2⟩ ⟨sl2,Y.1,Y.2⟩:=by
 unfold exSt at he
 split at he
 case isFalse=>cases he
 rename_i hnd
 split at he
 case h_2=>cases he
 rename_i t p y hop hdst
 have key : ∀ sl2,Qrx sl sl2→Qal ⟨sl2,X.1,X.2⟩ p=Qal ⟨sl,X.1,X.2⟩ p∧Qal ⟨sl2,X.1,X.2⟩ y=Qal ⟨sl,X.1,X.2⟩ y:=by
  intro sl2 hle
  simp only [Qjo,List.all_eq_true,hop] at hnd
  exact ⟨Qgz hle (hnd p (by simp [Op.operands])),Qgz hle (hnd y (by simp [Op.operands]))⟩
 have hok2 : ∀ sl2,Qeh ⟨sl2,X.1,X.2⟩=Qeh ⟨sl,X.1,X.2⟩:=by intro sl2;funext c;cases c <;> rfl
 split at he
 case h_2=>cases he
 rename_i ti i e oo hti hpt
 split at he
 case isFalse=>cases he
 rename_i hus
 split at he
 case h_2=>cases he
 rename_i R hR
 have done : ∀ (x:List AV),R.xs[e]? = some x→(cellsOf (Qal ⟨sl,X.1,X.2⟩ y)).length=ti.sz→oo+(cellsOf (Qal ⟨sl,X.1,X.2⟩ y)).length≤x.length→(cellsOf (Qal ⟨sl,X.1,X.2⟩ y)).all (Qeh ⟨sl,X.1,X.2⟩)=true →
   ∃ Y,XE Y (adX X [(i,some ⟨R.T,R.sz,R.xs.set e (wr x oo (cellsOf (Qal ⟨sl,X.1,X.2⟩ y)))⟩)])∧∀ sl2,Qrx sl sl2→Qm5 E o ⟨sl2,X.1,X.2⟩ ⟨sl2,Y.1,Y.2⟩:=by
  intro x h1 h2 h3 h4
  refine ⟨((i,some ⟨R.T,R.sz,R.xs.set e (wr x oo (cellsOf (Qal ⟨sl,X.1,X.2⟩ y)))⟩) :: X.1,X.2),⟨fun j=>rfl,fun j=>?_⟩,fun sl2 hle=>?_⟩
  ·simp only [adX,List.mem_cons]
   simp at hus
   constructor
   ·intro h;exact .inr h
   ·rintro (h | h)
    ·rw [h];exact hus
    ·exact h
  ·obtain ⟨k1,k2⟩:=key sl2 hle
   have:=Qm9 hΘ (o:=o) (s:=⟨sl2,X.1,X.2⟩) hop hdst hti (by rw [k1];exact hpt) (R:=R) hR h1 (by rw [k2];exact h2) (by rw [k2];exact h3) (by rw [k2,hok2];exact h4)
   rw [k2] at this
   exact this
 split at he
 ·rename_i x xs' _
  split at he
  case isFalse=>cases he
  rename_i hok
  cases he
  obtain ⟨h1,h2,h3,h4,_⟩:=hp
  subst h2
  exact done x h1 h3 h4 hok
 ·rename_i x xs' _
  cases he
  obtain ⟨h1,h2,h3,h4,h5,_⟩:=hp
  subst h2
  exact done x h1 h3 h4 (Xeb h5)
 ·split at he
  case h_2=>cases he
  rename_i x hx
  split at he
  case isFalse=>cases he
  rename_i h1
  split at he
  case isFalse=>cases he
  rename_i h2
  split at he
  case isFalse=>cases he
  rename_i h3
  cases he
  exact done x hx h2 h3 h1
 ·cases he
theorem Xiu {E:Env} {ops:Array Oper} {o:Oper} {sl:List (Nat×AV)} {X Y Z:Xs} (hw:Qml ops E.n o ⟨sl,X.1,X.2⟩=some true) (h : ∀ sl2,Qrx sl sl2→Qm5 E o ⟨sl2,X.1,X.2⟩ ⟨sl2,Y.1,Y.2⟩) (e:XE Y Z) : STn E ops o sl X Z:=by
 intro sl2 hle a w Q K hr hk
 rw [if_pos (Qhb (Qqr hw hle) hr)]
 exact .inl (h sl2 hle a w hr K Q (fun a' w' hr'=>hk a' w' (by obtain ⟨χ,hd,h0⟩:=hr';exact ⟨χ,hd,h0.xe e⟩)))
def Xjd:Nat→List (List Bool)
 | 0=>[[]]
 | n+1=>(Xjd n).flatMap fun bs=>[false :: bs,true :: bs]
theorem Qus : ∀ (bs:List Bool),bs∈Xjd bs.length
 | []=>by simp [Xjd]
 | b :: bs=>by
  simp only [List.length_cons,Xjd,List.mem_flatMap]
  exact ⟨bs,Qus bs,by cases b <;> simp⟩
def exAt (Θ:Tys) (P:PK) (n:Nat) (ops:Array Oper) (msk sl:List (Nat×AV)) (Ms:List Nat) (Ls:List (List (Nat×Option Qae))) (X0:Xs) (rd:List (Nat×AV)) (i:Nat) (o:Oper) (d:Nat) (h:Hn) (r:AV) (bs:List Bool) : Option (List Prop):=
  match Qml ops n o ⟨Qc6 ops.toList rd o++(msk++sl),(stB X0 Ls bs).1,(stB X0 Ls bs).2⟩ with
  | some true=>if Ms.contains i then (match exML Θ P n ⟨Qc6 ops.toList rd o++(msk++sl),(stB X0 Ls bs).1,(stB X0 Ls bs).2⟩ o d h,(Ms.zip Ls).lookup i with
      | some (r2,l,ps),some L=>some ((r2=r) :: (l=L) :: ps)
      | _,_=>none)
    else match exV Θ P n ⟨Qc6 ops.toList rd o++(msk++sl),(stB X0 Ls bs).1,(stB X0 Ls bs).2⟩ o d h with
      | some (r2,ps)=>some ((r2=r) :: ps)
      | none=>none
  | some false=>if Ms.contains i then none else if d<n then some [AV.lit undef=r] else none
  | none=>none
theorem Xaq {E:Env} {Θ:Tys} (hΘ:TOK E.P Θ) {ops:Array Oper} {msk sl:List (Nat×AV)} {Ms:List Nat} {A:List (List Nat)} {Ls:List (List (Nat×Option Qae))} {X0:Xs} {rd:List (Nat×AV)} {i:Nat} {o:Oper} {d:Nat} {h:Hn} {r:AV} {bs:List Bool} {ps:List Prop} (hd:o.dst=some d)
  (hn:Ms.Nodup) (h1:Ls.length=Ms.length) (h2:bs.length=Ms.length) (h3:Xh8 A Ms Ls=true) (hok:okS Ms A i bs=true) (he:exAt Θ E.pk E.n ops msk sl Ms Ls X0 rd i o d h r bs=some ps) (hp:Qb0 ps) : STo E ops o (Qc6 ops.toList rd o++(msk++sl)) (stB X0 Ls bs) (stB X0 Ls (Xaa i Ms bs)) d r:=by
 have hbi : ∀ p∈Ms.zip bs,p.1=i∨(Qqc A p.1).contains i=true→p.2=false:=by
  intro p hp' hpi
  unfold okS at hok
  have:=List.all_eq_true.1 hok p hp'
  simp only [Bool.and_eq_true,Bool.or_eq_true,Bool.not_eq_true'] at this
  rcases this.1.2 with h | h
  ·exfalso
   rw [Bool.or_eq_false_iff] at h
   rcases hpi with e | e
   ·rw [e] at h;simp at h
   ·rw [e] at h;cases h.2
  ·exact h
 unfold exAt at he
 split at he
 ·rename_i hw
  split at he
  ·rename_i hM
   split at he
   case h_2=>cases he
   rename_i r2 l qs L hl hL
   cases he
   obtain ⟨e1,e2,e3⟩:=hp
   subst e1;subst e2
   obtain ⟨Y,hY,hXE⟩:=Xgb hl
   have:=Xd5 hw (Qws hΘ hd hY e3)
   exact this.xe (hXE.trans (Qvp hn h1 h2 h3 hL hbi))
  ·rename_i hM
   split at he
   case h_2=>cases he
   rename_i r2 qs hv
   cases he
   obtain ⟨e1,e3⟩:=hp
   subst e1
   rw [Qp1 (by simpa using hM) h2]
   exact STo.of (Qvm hw (Qoo hΘ hd hv e3).2)
 ·rename_i hw
  split at he
  ·cases he
  rename_i hM
  split at he
  case isFalse=>cases he
  rename_i hdn
  cases he
  obtain ⟨e1,_⟩:=hp
  subst e1
  rw [Qp1 (by simpa using hM) h2]
  exact STo.of (Qzs hd hdn hw)
 ·cases he
def Xj1 (Θ:Tys) (P:PK) (n:Nat) (ops:Array Oper) (msk sl:List (Nat×AV)) (Ms:List Nat) (Ls:List (List (Nat×Option Qae))) (X0:Xs) (rd:List (Nat×AV)) (i:Nat) (o:Oper) (h:Hn) (bs:List Bool) : Option (List Prop):=
 match Qml ops n o ⟨Qc6 ops.toList rd o++(msk++sl),(stB X0 Ls bs).1,(stB X0 Ls bs).2⟩ with
 | some true=>match exSt Θ ⟨Qc6 ops.toList rd o++(msk++sl),(stB X0 Ls bs).1,(stB X0 Ls bs).2⟩ o h,(Ms.zip Ls).lookup i with
  | some (l,ps),some L=>some ((l=L) :: ps)
  | _,_=>none
 | _=>none
theorem Qyc {E:Env} {Θ:Tys} (hΘ:TOK E.P Θ) {ops:Array Oper} {msk sl:List (Nat×AV)} {Ms:List Nat} {A:List (List Nat)} {Ls:List (List (Nat×Option Qae))} {X0:Xs} {rd:List (Nat×AV)} {i:Nat} {o:Oper} {h:Hn} {bs:List Bool} {ps:List Prop}
  (hn:Ms.Nodup) (h1:Ls.length=Ms.length) (h2:bs.length=Ms.length) (h3:Xh8 A Ms Ls=true) (hok:okS Ms A i bs=true) (he:Xj1 Θ E.pk E.n ops msk sl Ms Ls X0 rd i o h bs=some ps) (hp:Qb0 ps) : STn E ops o (Qc6 ops.toList rd o++(msk++sl)) (stB X0 Ls bs) (stB X0 Ls (Xaa i Ms bs)):=by
 have hbi : ∀ p∈Ms.zip bs,p.1=i∨(Qqc A p.1).contains i=true→p.2=false:=by
  intro p hp' hpi
  unfold okS at hok
  have:=List.all_eq_true.1 hok p hp'
  simp only [Bool.and_eq_true,Bool.or_eq_true,Bool.not_eq_true'] at this
  rcases this.1.2 with h | h
  ·exfalso
   rw [Bool.or_eq_false_iff] at h
   rcases hpi with e | e
   ·rw [e] at h;simp at h
   ·rw [e] at h;cases h.2
  ·exact h
 unfold Xj1 at he
 split at he
 case h_2=>cases he
 rename_i hw
 split at he
 case h_2=>cases he
 rename_i l qs L hl hL
 cases he
 obtain ⟨e1,e3⟩:=hp
 subst e1
 obtain ⟨Y,hY,hop⟩:=Xba hΘ hl e3
 exact Xiu hw hop (hY.trans (Qvp hn h1 h2 h3 hL hbi))
def Xel (f:List Bool→Option (List Prop)) : List (List Bool)→Option (List Prop)
 | []=>some []
 | bs :: rest=>match f bs,Xel f rest with
  | some ps,some qs=>some (ps++qs)
  | _,_=>none
theorem Qn4 {f:List Bool→Option (List Prop)} : ∀ {l:List (List Bool)} {ps:List Prop},Xel f l=some ps→Qb0 ps→∀ bs∈l,∃ qs,f bs=some qs∧Qb0 qs
 | [],ps,_,_,bs,h=>by cases h
 | b :: l,ps,he,hp,bs,h=>by
  simp only [Xel] at he
  split at he
  case h_2=>cases he
  rename_i p1 p2 h1 h2
  cases he
  obtain ⟨q1,q2⟩:=Qaq hp
  rcases List.mem_cons.1 h with rfl | h
  ·exact ⟨_,h1,q1⟩
  ·exact Qn4 h2 q2 bs h
def Qwr (Θ:Tys) (P:PK) (n:Nat) (ops:Array Oper) (msk sl:List (Nat×AV)) (Ms:List Nat) (A:List (List Nat)) (Ls:List (List (Nat×Option Qae))) (X0:Xs) (rd:List (Nat×AV)) : List Oper→Nat→Nat→List Hn→Option (Nat×List Hn×List Prop)
 | [],i,k,hs=>some (k,hs,[])
 | o :: rest,i,k,hs=>match o.dst with
  | some d=>match rd.lookup d with
   | some r=>match Xel (exAt Θ P n ops msk sl Ms Ls X0 rd i o d (pop k hs).1 r) ((Xjd Ms.length).filter (okS Ms A i)) with
    | some ps=>match Qwr Θ P n ops msk sl Ms A Ls X0 rd rest (i+1) (k+1) (pop k hs).2 with
     | some (k',hs',qs)=>some (k',hs',ps++qs)
     | none=>none
    | none=>none
   | none=>none
  | none=>match Xel (Xj1 Θ P n ops msk sl Ms Ls X0 rd i o (pop k hs).1) ((Xjd Ms.length).filter (okS Ms A i)) with
   | some ps=>match Qwr Θ P n ops msk sl Ms A Ls X0 rd rest (i+1) (k+1) (pop k hs).2 with
    | some (k',hs',qs)=>some (k',hs',ps++qs)
    | none=>none
   | none=>none
theorem Qlq {E:Env} {Θ:Tys} (hΘ:TOK E.P Θ) {ops:Array Oper} {msk sl:List (Nat×AV)} {Ms:List Nat} {A:List (List Nat)} {Ls:List (List (Nat×Option Qae))} {X0:Xs} {rd:List (Nat×AV)} (hn:Ms.Nodup) (h1:Ls.length=Ms.length) (h3:Xh8 A Ms Ls=true) :
  ∀ {l:List Oper} {i k k':Nat} {hs hs':List Hn} {ps:List Prop},Qwr Θ E.pk E.n ops msk sl Ms A Ls X0 rd l i k hs=some (k',hs',ps)→Qb0 ps →
  ∀ j o,l[j]? = some o→(∃ d r,o.dst=some d∧rd.lookup d=some r∧∀ bs,bs.length=Ms.length→okS Ms A (i+j) bs=true→STo E ops o (Qc6 ops.toList rd o++(msk++sl)) (stB X0 Ls bs) (stB X0 Ls (Xaa (i+j) Ms bs)) d r)∨(o.dst=none∧∀ bs,bs.length=Ms.length→okS Ms A (i+j) bs=true→STn E ops o (Qc6 ops.toList rd o++(msk++sl)) (stB X0 Ls bs) (stB X0 Ls (Xaa (i+j) Ms bs)))
 | [],i,k,k',hs,hs',ps,_,_,j,o,h=>by simp at h
 | o0 :: rest,i,k,k',hs,hs',ps,he,hp,j,o,h=>by
  simp only [Qwr] at he
  split at he
  ·rename_i d hd
   split at he
   case h_2=>cases he
   rename_i r hr
   split at he
   case h_2=>cases he
   rename_i p1 ha
   split at he
   case h_2=>cases he
   rename_i k2 hs2 p2 hrest
   cases he
   obtain ⟨q1,q2⟩:=Qaq hp
   cases j with
   | zero =>
    have:o0=o:=by simpa using h
    subst this
    refine .inl ⟨d,r,hd,hr,fun bs hb hok=>?_⟩
    obtain ⟨qs,e1,e2⟩:=Qn4 ha q1 bs (by rw [List.mem_filter];exact ⟨by rw [← hb];exact Qus bs,by simpa using hok⟩)
    exact Xaq hΘ hd hn h1 hb h3 hok e1 e2
   | succ j =>
    have:=Qlq hΘ hn h1 h3 hrest q2 j o (by simpa using h)
    rw [show i+1+j=i+(j+1) by omega] at this
    exact this
  ·rename_i hd
   split at he
   case h_2=>cases he
   rename_i p1 ha
   split at he
   case h_2=>cases he
   rename_i k2 hs2 p2 hrest
   cases he
   obtain ⟨q1,q2⟩:=Qaq hp
   cases j with
   | zero =>
    have:o0=o:=by simpa using h
    subst this
    refine .inr ⟨hd,fun bs hb hok=>?_⟩
    obtain ⟨qs,e1,e2⟩:=Qn4 ha q1 bs (by rw [List.mem_filter];exact ⟨by rw [← hb];exact Qus bs,by simpa using hok⟩)
    exact Qyc hΘ hn h1 hb h3 hok e1 e2
   | succ j =>
    have:=Qlq hΘ hn h1 h3 hrest q2 j o (by simpa using h)
    rw [show i+1+j=i+(j+1) by omega] at this
    exact this
def Xch (Θ:Tys) (P:PK) (n:Nat) (ops:Array Oper) (msk sl:List (Nat×AV)) (Ms:List Nat) : List Oper→Nat→Nat→Xs→List (Nat×AV)→List (List (Nat×Option Qae))→List Hn→Option (List (Nat×AV)×List (List (Nat×Option Qae)))
 | [],i,k,X,done,Ls,hs=>some (done,Ls)
 | o :: rest,i,k,X,done,Ls,hs=>match o.dst with
  | some d=>match Qml ops n o ⟨Qc6 ops.toList done o++(msk++sl),X.1,X.2⟩ with
   | some true=>if Ms.contains i then match exML Θ P n ⟨Qc6 ops.toList done o++(msk++sl),X.1,X.2⟩ o d (pop k hs).1 with
     | some (r,l,_)=>Xch Θ P n ops msk sl Ms rest (i+1) (k+1) (adX X l) ((d,r) :: done) (Ls++[l]) (pop k hs).2
     | none=>none
    else match exV Θ P n ⟨Qc6 ops.toList done o++(msk++sl),X.1,X.2⟩ o d (pop k hs).1 with
     | some (r,_)=>Xch Θ P n ops msk sl Ms rest (i+1) (k+1) X ((d,r) :: done) Ls (pop k hs).2
     | none=>none
   | some false=>Xch Θ P n ops msk sl Ms rest (i+1) (k+1) X ((d,.lit undef) :: done) Ls (pop k hs).2
   | none=>none
  | none=>if Ms.contains i then match exSt Θ ⟨Qc6 ops.toList done o++(msk++sl),X.1,X.2⟩ o (pop k hs).1 with
    | some (l,_)=>Xch Θ P n ops msk sl Ms rest (i+1) (k+1) (adX X l) done (Ls++[l]) (pop k hs).2
    | none=>none
   else none
def exDS (Θ:Tys) (P:PK) (n:Nat) (ops:Array Oper) (m k:Nat) (s:St) (Ms:List Nat) (A:List (List Nat)) (hs:List Hn) : Option (Nat×St×List Hn×List Prop):=
 if Xhh ops.toList m && Xbl ops.toList m A && Region.seqB .any ops (ops.toList.length - m) m (Qlo ops.toList.length m) && Xbp ops.toList m A && Ms.all (fun i=>decide (i<m)) && decide (Ms.Nodup) then
  match Xch Θ P n ops (Qfx (ops.toList.take m)) s.sl Ms (ops.toList.take m) 0 k (s.rt,s.us) [] [] hs with
  | some (rd,Ls)=>if rdB ops.toList m rd && decide (Ls.length=Ms.length) && Xh8 A Ms Ls then match Qwr Θ P n ops (Qfx (ops.toList.take m)) s.sl Ms A Ls (s.rt,s.us) rd (ops.toList.take m) 0 k hs with
   | some (k3,hs3,ts)=>match Qug Θ P n ops (ops.toList.drop m) k3 ⟨rd++s.sl,(stB (s.rt,s.us) Ls (Ms.map fun _=>true)).1,(stB (s.rt,s.us) Ls (Ms.map fun _=>true)).2⟩ hs3 with
    | some (k4,s4,hs4,us)=>some (k4,s4,hs4,ts++us)
    | none=>none
   | none=>none
   else none
  | none=>none
 else none
theorem Xef {X:Xs} {Ms:List Nat} : ∀ (Ls:List (List (Nat×Option Qae))),stB X Ls (Ms.map fun _=>false)=X:=by
 induction Ms with
 | nil=>intro Ls;cases Ls <;> rfl
 | cons k Ms ih=>intro Ls;cases Ls with
  | nil=>rfl
  | cons l Ls=>simp only [List.map_cons,stB];exact ih Ls
theorem Xat {E:Env} {Θ:Tys} (hΘ:TOK E.P Θ) (hmo:E.P.follows .mixedOrders=true) {id:Nat} {ops:Array Oper} {m k k':Nat} {s s':St} {Ms:List Nat} {A:List (List Nat)} {hs hs':List Hn} {ps:List Prop} (h:exDS Θ E.pk E.n ops m k s Ms A hs=some (k',s',hs',ps)) (hp:Qb0 ps) {Q:Exit→St→Prop} (hq:Q .normal s') : TWp E (.region id ops true) Q s:=by
 unfold exDS at h
 split at h
 case isFalse=>cases h
 rename_i hok
 simp only [Bool.and_eq_true,decide_eq_true_eq] at hok
 obtain ⟨⟨⟨⟨⟨hh,ht⟩,hseq⟩,hA⟩,hMs⟩,hMn⟩:=hok
 split at h
 case h_2=>cases h
 rename_i rd Ls he
 split at h
 case isFalse=>cases h
 rename_i hok2
 simp only [Bool.and_eq_true,decide_eq_true_eq] at hok2
 obtain ⟨⟨hrd,hL⟩,hK⟩:=hok2
 split at h
 case h_2=>cases h
 rename_i k3 hs3 ts hx
 split at h
 case h_2=>cases h
 rename_i k4 s4 hs4 us ho
 cases h
 obtain ⟨h3,h4⟩:=Qaq hp
 obtain ⟨sl,rt,us0⟩:=s
 have hone:Xfc E ops.toList m sl (stB (rt,us0) Ls) Ms A rd:=by
  intro i o hi ho'
  have:=Qlq hΘ hMn hL hK hx h3 i o (by rw [List.getElem?_take,if_pos hi];exact ho')
  rw [Nat.zero_add] at this
  exact this
 have:=Xb3 (E:=E) (id:=id) (ops:=ops) (Q:=Q) m hmo hh ht hseq hA hMs hMn hrd hone (Qhc hΘ ho h4 hq)
 rw [Xef] at this
 exact this
def chB (A:List (List Nat)) : List Nat→Bool
 | a :: b :: l=>(Qqc A b).contains a && chB A (b :: l)
 | _=>true
def Xi8 (o:Oper) : Bool:=match o.op,o.dst with
 | .store _ _ _,none=>true
 | _,_=>false
def msN (ops:Array Oper) (k m:Nat) (hs:List Hn) : List Nat:=if (ops.toList.take m).any Xi8 then (List.range m).filter fun i=>hs.any (fun h=>h.k == k+i && Xgy h.h) || (match ops.toList[i]? with | some o=>Xi8 o | none=>false) else msOf k m hs
def Xiq (Θ:Tys) (P:PK) (n:Nat) (ops:Array Oper) (draw:Bool) (k:Nat) (s:St) (hs:List Hn) : Option (Nat×St×List Hn×List Prop):=
  if draw then match ghs k hs s with
    | some (s1,hs1,ps)=>if ops.toList.any memOp || decide ((msN ops k (Qyy ops) hs1).length≠0) || !Qtw ops (Xdb ops) then (if chB (Qwf ops.toList []) (msN ops k (Qyy ops) hs1) && !(ops.toList.take (Qyy ops)).any Xi8 then (match exDM Θ P n ops (Qyy ops) k s1 (msN ops k (Qyy ops) hs1) (Qwf ops.toList []) hs1 with
      | some (k3,s3,hs3,rs)=>some (k3,s3,hs3,ps++rs)
      | none=>none)
      else (match exDS Θ P n ops (Qyy ops) k s1 (msN ops k (Qyy ops) hs1) (Qwf ops.toList []) hs1 with
      | some (k3,s3,hs3,rs)=>some (k3,s3,hs3,ps++rs)
      | none=>none))
      else if Qtw ops (Xdb ops) then match Qtx Θ P n ops s1.sl s1.rt s1.us (ops.toList.take (ops.toList.length - Xdb ops)) k [] hs1 with
      | some (k2,rd,hs2,qs)=>match Qug Θ P n ops (ops.toList.drop (ops.toList.length - Xdb ops)) k2 ⟨rd++s1.sl,s1.rt,s1.us⟩ hs2 with
        | some (k3,s3,hs3,rs)=>some (k3,s3,hs3,ps++(qs++rs))
        | none=>none
      | none=>none
      else none
    | none=>none
  else Qug Θ P n ops ops.toList k s hs
theorem Qyh {E:Env} {Θ:Tys} (hΘ:TOK E.P Θ) (hm:E.P.follows .mixedOrders=true) {id:Nat} {ops:Array Oper} {draw:Bool} {k k':Nat} {s s':St} {hs hs':List Hn} {ps:List Prop} (h:Xiq Θ E.pk E.n ops draw k s hs=some (k',s',hs',ps)) (hp:Qb0 ps) {Q:Exit→St→Prop} (hq:Q .normal s') : TWp E (.region id ops draw) Q s:=by
 unfold Xiq at h
 split at h
 ·rename_i hdr
  subst hdr
  split at h
  case h_2=>cases h
  rename_i s1 hs1 qs hg
  split at h
  ·split at h
   ·split at h
    case h_2=>cases h
    rename_i k3 s3 hs3 rs hx
    cases h
    obtain ⟨h1,h2⟩:=Qaq hp
    exact Quo (Qhq hg h1) (Xay hΘ hm hx h2 hq)
   ·split at h
    case h_2=>cases h
    rename_i k3 s3 hs3 rs hx
    cases h
    obtain ⟨h1,h2⟩:=Qaq hp
    exact Quo (Qhq hg h1) (Xat hΘ hm hx h2 hq)
  split at h
  case isFalse=>cases h
  rename_i hok
  simp only [Qtw,Bool.and_eq_true] at hok
  split at h
  case h_2=>cases h
  rename_i k2 rd hs2 rs hh
  split at h
  case h_2=>cases h
  rename_i k3 s3 hs3 ts ho
  cases h
  obtain ⟨h1,h2⟩:=Qaq hp
  obtain ⟨h3,h4⟩:=Qaq h2
  refine Quo (Qhq hg h1) ?_
  obtain ⟨sl,rt,us⟩:=s1
  exact Xc5 (Xdb ops) hm hok.1.1 hok.1.2 hok.2 (Qle hΘ hh h3) (Qhc hΘ ho h4 hq)
 ·rename_i hdr
  have:draw=false:=by simpa using hdr
  subst this
  exact Xii (Qhc hΘ h hp hq)
end Go.T
set_option linter.unusedVariables false
namespace Go.T
open Go Go.RowKit Go.Proofs
def LWw (P:Program) (c:Code) (Q:Exit→Act→World→Prop) (a:Act) (w:World) : Prop:=
 ∀ (b:Frame) (k:List Item) (cs:List Frame),∃ e a' w',Q e a' w'∧Arrives P (lone (b.at a (.code c :: .inLoop c :: k)) cs w) b k cs e a' w'
theorem Xfy {P:Program} {c:Code} {Q:Exit→Act→World→Prop} {a:Act} {w:World} (h:LWw P c Q a w) : (Code.loop c).wp P Q a w:=by
 intro b k cs
 obtain ⟨e,a',w',hq,harr⟩:=h b k cs
 exact ⟨e,a',w',hq,.of_steps (.one step_loop) harr⟩
theorem Xdq {P:Program} {c:Code} {Q:Exit→Act→World→Prop} {a:Act} {w:World} (h:c.wp P (Exit.then (LWw P c Q) Q) a w) : LWw P c Q a w:=by
 intro b k cs
 obtain ⟨e,a₁,w₁,hq,harr⟩:=h b (.inLoop c :: k) cs
 cases e with
 | normal =>
  obtain ⟨e₂,a₂,w₂,hq₂,harr₂⟩:=hq b k cs
  exact ⟨e₂,a₂,w₂,hq₂,.of_steps (Steps.trans harr (.one step_inLoop)) harr₂⟩
 | exit id=>exact ⟨_,a₁,w₁,hq,.pass (x:=.inLoop c) rfl (fun _ _=>.inl (by simp)) harr⟩
 | goto l=>exact ⟨_,a₁,w₁,hq,.pass (x:=.inLoop c) rfl (fun _ _=>.inl (by simp)) harr⟩
 | ret=>exact ⟨_,a₁,w₁,hq,.pass (x:=.inLoop c) rfl (fun _ _=>.inl (by simp)) harr⟩
 | panic ch=>exact ⟨_,a₁,w₁,hq,.pass (x:=.inLoop c) rfl (fun _ _=>.inl (by simp)) harr⟩
 | outgrown=>exact ⟨_,a₁,w₁,hq,.pass (x:=.inLoop c) rfl (fun _ _=>.inl (by simp)) harr⟩
def LW (E:Env) (c:Code) (Q:Exit→St→Prop) (s:St) : Prop:=∀ a w,Rel E s a w→LWw E.P c (fun e a' w' => ∃ s',Q e s'∧Rel E s' a' w') a w
theorem Xij {E:Env} {c:Code} {Q:Exit→St→Prop} {s:St} (h:LW E c Q s) : TWp E (.loop c) Q s:=fun a w hr=>Xfy (h a w hr)
theorem Xf7 {E:Env} {c:Code} {Q:Exit→St→Prop} {s:St} (h:TWp E c (thn (LW E c Q) Q) s) : LW E c Q s:=by
 intro a w hr
 refine Xdq (wp_mono (h a w hr) ?_)
 rintro e a' w' ⟨s',h1,h2⟩
 cases e with
 | normal=>exact h1 a' w' h2
 | _=>exact ⟨s',h1,h2⟩
def cAt:Code→List Bool→Option Code
 | c,[]=>some c
 | .seq a _,false :: p=>cAt a p
 | .seq _ b,true :: p=>cAt b p
 | .cond _ a _,false :: p=>cAt a p
 | .cond _ _ b,true :: p=>cAt b p
 | .block _ b,false :: p=>cAt b p
 | .loop b,false :: p=>cAt b p
 | _,_=>none
def kAt (E:Env) : Code→List Bool→(Exit→St→Prop)→Exit→St→Prop
 | _,[],Q=>Q
 | .seq a b,false :: p,Q=>kAt E a p (thn (TWp E b Q) Q)
 | .seq _ b,true :: p,Q=>kAt E b p Q
 | .cond _ a _,false :: p,Q=>kAt E a p Q
 | .cond _ _ b,true :: p,Q=>kAt E b p Q
 | .block id b,false :: p,Q=>kAt E b p (inB id Q)
 | .loop b,false :: p,Q=>kAt E b p (thn (LW E b Q) Q)
 | _,_,Q=>Q
def nxt:Code→List Bool→Option (List Bool)
 | _,[]=>none
 | .seq a _,false :: p=>match nxt a p with
  | some q=>some (false :: q)
  | none=>some [true]
 | .seq _ b,true :: p=>(nxt b p).map (true :: ·)
 | .cond _ a _,false :: p=>(nxt a p).map (false :: ·)
 | .cond _ _ b,true :: p=>(nxt b p).map (true :: ·)
 | .block _ b,false :: p=>(nxt b p).map (false :: ·)
 | .loop b,false :: p=>match nxt b p with
  | some q=>some (false :: q)
  | none=>some []
 | _,_=>none
def ext (id:Nat) : Code→List Bool→Option (Option (List Bool))
 | _,[]=>none
 | .seq a _,false :: p=>match ext id a p with
  | some (some q)=>some (some (false :: q))
  | some none=>some (some [true])
  | none=>none
 | .seq _ b,true :: p=>(ext id b p).map (Option.map (true :: ·))
 | .cond _ a _,false :: p=>(ext id a p).map (Option.map (false :: ·))
 | .cond _ _ b,true :: p=>(ext id b p).map (Option.map (true :: ·))
 | .block i b,false :: p=>match ext id b p with
  | some q=>some (q.map (false :: ·))
  | none=>if id=i then some none else none
 | .loop b,false :: p=>match ext id b p with
  | some (some q)=>some (some (false :: q))
  | some none=>some (some [])
  | none=>none
 | _,_=>none
def WAt (E:Env) (c:Code) (Q:Exit→St→Prop) (p:List Bool) (s:St) : Prop:=
 match cAt c p with
 | some (.loop b)=>LW E b (kAt E c p Q) s
 | some d=>TWp E d (kAt E c p Q) s
 | none=>False
theorem Ql7 {E:Env} {c d:Code} {Q:Exit→St→Prop} {p:List Bool} {s:St} (hc:cAt c p=some d) (h:WAt E c Q p s) : TWp E d (kAt E c p Q) s:=by
 unfold WAt at h
 rw [hc] at h
 split at h
 ·rename_i hd;cases hd;exact Xij h
 ·rename_i hd;cases hd;exact h
 ·cases ‹some d=none›
theorem Qs6 {E:Env} {c d:Code} {Q:Exit→St→Prop} {p:List Bool} {s:St} (hc:cAt c p=some d) (hd : ∀ b,d ≠ .loop b) (h:TWp E d (kAt E c p Q) s) : WAt E c Q p s:=by
 unfold WAt
 rw [hc]
 split
 ·rename_i he;cases he;exact absurd rfl (hd _)
 ·rename_i he;cases he;exact h
 ·cases ‹some d=none›
theorem Qzc {E:Env} {c:Code} {Q:Exit→St→Prop} {s:St} (h:WAt E c Q [] s) : TWp E c Q s:=by
 have h1:cAt c []=some c:=by cases c <;> rfl
 have h2:kAt E c [] Q=Q:=by cases c <;> rfl
 have:=Ql7 h1 h
 rwa [h2] at this
def WN (E:Env) (c:Code) (Q:Exit→St→Prop) (p:Option (List Bool)) (s:St) : Prop:=
 match p with
 | some p=>WAt E c Q p s
 | none=>Q .normal s
theorem Qlt {E:Env} {c d:Code} {Q Q':Exit→St→Prop} {b:Bool} (hc : ∀ p,cAt c (b :: p)=cAt d p) (hk : ∀ p,kAt E c (b :: p) Q=kAt E d p Q') (hq : ∀ s,Q .normal s→Q' .normal s) {p:Option (List Bool)} {s:St} (h:WN E c Q (p.map (b :: ·)) s) : WN E d Q' p s:=by
 cases p with
 | none=>exact hq s h
 | some p =>
  simp only [Option.map_some,WN,WAt,hc,hk] at h ⊢
  exact h
theorem Qhw {E:Env} : ∀ {c:Code} {p:List Bool} {Q:Exit→St→Prop} {s:St},WN E c Q (nxt c p) s→kAt E c p Q .normal s
 | c,[],Q,s,h=>by cases c <;> exact h
 | .seq a b,false :: p,Q,s,h=>by
  simp only [kAt]
  refine Qhw ?_
  simp only [nxt] at h
  cases hn:nxt a p with
  | none =>
   rw [hn] at h
   have:=Ql7 (d:=b) (by cases b <;> rfl) h
   have h2:kAt E (.seq a b) [true] Q=Q:=by cases b <;> rfl
   rw [h2] at this
   exact this
  | some q=>rw [hn] at h;exact h
 | .seq a b,true :: p,Q,s,h=>by simp only [kAt];exact Qhw (Qlt (fun _=>rfl) (fun _=>rfl) (fun _ h=>h) h)
 | .cond _ a b,false :: p,Q,s,h=>by simp only [kAt];exact Qhw (Qlt (fun _=>rfl) (fun _=>rfl) (fun _ h=>h) h)
 | .cond _ a b,true :: p,Q,s,h=>by simp only [kAt];exact Qhw (Qlt (fun _=>rfl) (fun _=>rfl) (fun _ h=>h) h)
 | .block id b,false :: p,Q,s,h=>by simp only [kAt];simp only [nxt] at h;exact Qhw (Qlt (c:=.block id b) (Q:=Q) (Q':=inB id Q) (fun _=>rfl) (fun _=>rfl) (fun _ h=>h) h)
 | .loop b,false :: p,Q,s,h=>by
  simp only [kAt]
  refine Qhw ?_
  simp only [nxt] at h
  cases hn:nxt b p with
  | none=>rw [hn] at h;exact h
  | some q=>rw [hn] at h;exact h
 | .block id b,true :: p,Q,s,h=>by simpa only [kAt,nxt,WN] using h
 | .loop b,true :: p,Q,s,h=>by simpa only [kAt,nxt,WN] using h
 | .skip,_ :: _,Q,s,h=>by simpa only [kAt,nxt,WN] using h
 | .region _ _ _,_ :: _,Q,s,h=>by simpa only [kAt,nxt,WN] using h
 | .rangeFunc _ _ _ _,_ :: _,Q,s,h=>by simpa only [kAt,nxt,WN] using h
 | .exit _,_ :: _,Q,s,h=>by simpa only [kAt,nxt,WN] using h
 | .scope _,_ :: _,Q,s,h=>by simpa only [kAt,nxt,WN] using h
 | .label _,_ :: _,Q,s,h=>by simpa only [kAt,nxt,WN] using h
 | .goto _,_ :: _,Q,s,h=>by simpa only [kAt,nxt,WN] using h
 | .ret,_ :: _,Q,s,h=>by simpa only [kAt,nxt,WN] using h
 | .refuse _,_ :: _,Q,s,h=>by simpa only [kAt,nxt,WN] using h
theorem Qgw {E:Env} {id:Nat} : ∀ {c:Code} {p:List Bool} {Q:Exit→St→Prop} {s:St} {q:Option (List Bool)},ext id c p=some q→WN E c Q q s→kAt E c p Q (.exit id) s
 | c,[],Q,s,q,h,_=>by cases c <;> simp [ext] at h
 | .seq a b,false :: p,Q,s,q,h,hw=>by
  simp only [kAt]
  simp only [ext] at h
  split at h
  ·rename_i q' he;cases h;exact Qgw he hw
  ·rename_i he
   cases h
   refine Qgw he ?_
   have:=Ql7 (d:=b) (by cases b <;> rfl) hw
   have h2:kAt E (.seq a b) [true] Q=Q:=by cases b <;> rfl
   rw [h2] at this
   exact this
  ·cases h
 | .seq a b,true :: p,Q,s,q,h,hw=>by
  simp only [kAt]
  simp only [ext,Option.map_eq_some_iff] at h
  obtain ⟨q',he,rfl⟩:=h
  exact Qgw he (Qlt (fun _=>rfl) (fun _=>rfl) (fun _ h=>h) hw)
 | .cond _ a b,false :: p,Q,s,q,h,hw=>by
  simp only [kAt]
  simp only [ext,Option.map_eq_some_iff] at h
  obtain ⟨q',he,rfl⟩:=h
  exact Qgw he (Qlt (fun _=>rfl) (fun _=>rfl) (fun _ h=>h) hw)
 | .cond _ a b,true :: p,Q,s,q,h,hw=>by
  simp only [kAt]
  simp only [ext,Option.map_eq_some_iff] at h
  obtain ⟨q',he,rfl⟩:=h
  exact Qgw he (Qlt (fun _=>rfl) (fun _=>rfl) (fun _ h=>h) hw)
 | .block i b,false :: p,Q,s,q,h,hw=>by
  simp only [kAt]
  simp only [ext] at h
  split at h
  ·rename_i q' he
   cases h
   exact Qgw he (Qlt (c:=.block i b) (Q:=Q) (Q':=inB i Q) (fun _=>rfl) (fun _=>rfl) (fun _ h=>h) hw)
  ·rename_i he
   split at h
   case isFalse=>cases h
   rename_i hi
   cases h
   refine ext_none he ?_
   simp only [inB]
   rw [if_pos hi]
   exact hw
 | .loop b,false :: p,Q,s,q,h,hw=>by
  simp only [kAt]
  simp only [ext] at h
  split at h
  ·rename_i q' he;cases h;exact Qgw he hw
  ·rename_i he;cases h;exact Qgw he hw
  ·cases h
 | .block id b,true :: p,Q,s,q,h,_=>by simp [ext] at h
 | .loop b,true :: p,Q,s,q,h,_=>by simp [ext] at h
 | .skip,_ :: _,Q,s,q,h,_=>by simp [ext] at h
 | .region _ _ _,_ :: _,Q,s,q,h,_=>by simp [ext] at h
 | .rangeFunc _ _ _ _,_ :: _,Q,s,q,h,_=>by simp [ext] at h
 | .exit _,_ :: _,Q,s,q,h,_=>by simp [ext] at h
 | .scope _,_ :: _,Q,s,q,h,_=>by simp [ext] at h
 | .label _,_ :: _,Q,s,q,h,_=>by simp [ext] at h
 | .goto _,_ :: _,Q,s,q,h,_=>by simp [ext] at h
 | .ret,_ :: _,Q,s,q,h,_=>by simp [ext] at h
 | .refuse _,_ :: _,Q,s,q,h,_=>by simp [ext] at h where
 ext_none {E:Env} {id:Nat} : ∀ {c:Code} {p:List Bool} {Q:Exit→St→Prop} {s:St},ext id c p=none→Q (.exit id) s→kAt E c p Q (.exit id) s
 | c,[],Q,s,h,hq=>by cases c <;> exact hq
 | .seq a b,false :: p,Q,s,h,hq=>by
  simp only [kAt]
  simp only [ext] at h
  split at h
  ·cases h
  ·cases h
  ·rename_i he;exact ext_none he hq
 | .seq a b,true :: p,Q,s,h,hq=>by
  simp only [kAt]
  simp only [ext,Option.map_eq_none_iff] at h
  exact ext_none h hq
 | .cond _ a b,false :: p,Q,s,h,hq=>by
  simp only [kAt]
  simp only [ext,Option.map_eq_none_iff] at h
  exact ext_none h hq
 | .cond _ a b,true :: p,Q,s,h,hq=>by
  simp only [kAt]
  simp only [ext,Option.map_eq_none_iff] at h
  exact ext_none h hq
 | .block i b,false :: p,Q,s,h,hq=>by
  simp only [kAt]
  simp only [ext] at h
  split at h
  ·cases h
  ·rename_i he
   split at h
   ·cases h
   ·rename_i hi
    refine ext_none he ?_
    simp only [inB]
    rw [if_neg hi];exact hq
 | .loop b,false :: p,Q,s,h,hq=>by
  simp only [kAt]
  simp only [ext] at h
  split at h
  ·cases h
  ·cases h
  ·rename_i he;exact ext_none he hq
 | .block id b,true :: p,Q,s,h,hq=>by simpa only [kAt] using hq
 | .loop b,true :: p,Q,s,h,hq=>by simpa only [kAt] using hq
 | .skip,_ :: _,Q,s,h,hq=>by simpa only [kAt] using hq
 | .region _ _ _,_ :: _,Q,s,h,hq=>by simpa only [kAt] using hq
 | .rangeFunc _ _ _ _,_ :: _,Q,s,h,hq=>by simpa only [kAt] using hq
 | .exit _,_ :: _,Q,s,h,hq=>by simpa only [kAt] using hq
 | .scope _,_ :: _,Q,s,h,hq=>by simpa only [kAt] using hq
 | .label _,_ :: _,Q,s,h,hq=>by simpa only [kAt] using hq
 | .goto _,_ :: _,Q,s,h,hq=>by simpa only [kAt] using hq
 | .ret,_ :: _,Q,s,h,hq=>by simpa only [kAt] using hq
 | .refuse _,_ :: _,Q,s,h,hq=>by simpa only [kAt] using hq
theorem Qiz {E:Env} : ∀ {c:Code} {p:List Bool} {Q:Exit→St→Prop} {s:St},Q .ret s→kAt E c p Q .ret s
 | c,[],Q,s,hq=>by cases c <;> exact hq
 | .seq a b,false :: p,Q,s,hq=>by simp only [kAt];exact Qiz hq
 | .seq a b,true :: p,Q,s,hq=>by simp only [kAt];exact Qiz hq
 | .cond _ a b,false :: p,Q,s,hq=>by simp only [kAt];exact Qiz hq
 | .cond _ a b,true :: p,Q,s,hq=>by simp only [kAt];exact Qiz hq
 | .block i b,false :: p,Q,s,hq=>by simp only [kAt];exact Qiz hq
 | .loop b,false :: p,Q,s,hq=>by simp only [kAt];exact Qiz hq
 | .block id b,true :: p,Q,s,hq=>by simpa only [kAt] using hq
 | .loop b,true :: p,Q,s,hq=>by simpa only [kAt] using hq
 | .skip,_ :: _,Q,s,hq=>by simpa only [kAt] using hq
 | .region _ _ _,_ :: _,Q,s,hq=>by simpa only [kAt] using hq
 | .rangeFunc _ _ _ _,_ :: _,Q,s,hq=>by simpa only [kAt] using hq
 | .exit _,_ :: _,Q,s,hq=>by simpa only [kAt] using hq
 | .scope _,_ :: _,Q,s,hq=>by simpa only [kAt] using hq
 | .label _,_ :: _,Q,s,hq=>by simpa only [kAt] using hq
 | .goto _,_ :: _,Q,s,hq=>by simpa only [kAt] using hq
 | .ret,_ :: _,Q,s,hq=>by simpa only [kAt] using hq
 | .refuse _,_ :: _,Q,s,hq=>by simpa only [kAt] using hq
theorem Qj1 : ∀ {c:Code} {p q:List Bool} {d:Code},cAt c p=some d→cAt c (p++q)=cAt d q
 | c,[],q,d,h=>by cases c <;> (simp only [cAt] at h;cases h;rfl)
 | .seq a b,false :: p,q,d,h=>by simp only [cAt,List.cons_append] at h ⊢; exact Qj1 h
 | .seq a b,true :: p,q,d,h=>by simp only [cAt,List.cons_append] at h ⊢; exact Qj1 h
 | .cond _ a b,false :: p,q,d,h=>by simp only [cAt,List.cons_append] at h ⊢; exact Qj1 h
 | .cond _ a b,true :: p,q,d,h=>by simp only [cAt,List.cons_append] at h ⊢; exact Qj1 h
 | .block i b,false :: p,q,d,h=>by simp only [cAt,List.cons_append] at h ⊢; exact Qj1 h
 | .loop b,false :: p,q,d,h=>by simp only [cAt,List.cons_append] at h ⊢; exact Qj1 h
 | .block id b,true :: p,q,d,h=>by simp [cAt] at h
 | .loop b,true :: p,q,d,h=>by simp [cAt] at h
 | .skip,_ :: _,q,d,h=>by simp [cAt] at h
 | .region _ _ _,_ :: _,q,d,h=>by simp [cAt] at h
 | .rangeFunc _ _ _ _,_ :: _,q,d,h=>by simp [cAt] at h
 | .exit _,_ :: _,q,d,h=>by simp [cAt] at h
 | .scope _,_ :: _,q,d,h=>by simp [cAt] at h
 | .label _,_ :: _,q,d,h=>by simp [cAt] at h
 | .goto _,_ :: _,q,d,h=>by simp [cAt] at h
 | .ret,_ :: _,q,d,h=>by simp [cAt] at h
 | .refuse _,_ :: _,q,d,h=>by simp [cAt] at h
theorem Qj3 {E:Env} : ∀ {c:Code} {p q:List Bool} {d:Code} {Q:Exit→St→Prop},cAt c p=some d→kAt E c (p++q) Q=kAt E d q (kAt E c p Q)
 | c,[],q,d,Q,h=>by cases c <;> (simp only [cAt] at h;cases h;rfl)
 | .seq a b,false :: p,q,d,Q,h=>by simp only [cAt,kAt,List.cons_append] at h ⊢; exact Qj3 h
 | .seq a b,true :: p,q,d,Q,h=>by simp only [cAt,kAt,List.cons_append] at h ⊢; exact Qj3 h
 | .cond _ a b,false :: p,q,d,Q,h=>by simp only [cAt,kAt,List.cons_append] at h ⊢; exact Qj3 h
 | .cond _ a b,true :: p,q,d,Q,h=>by simp only [cAt,kAt,List.cons_append] at h ⊢; exact Qj3 h
 | .block i b,false :: p,q,d,Q,h=>by simp only [cAt,kAt,List.cons_append] at h ⊢; exact Qj3 h
 | .loop b,false :: p,q,d,Q,h=>by simp only [cAt,kAt,List.cons_append] at h ⊢; exact Qj3 h
 | .block id b,true :: p,q,d,Q,h=>by simp [cAt] at h
 | .loop b,true :: p,q,d,Q,h=>by simp [cAt] at h
 | .skip,_ :: _,q,d,Q,h=>by simp [cAt] at h
 | .region _ _ _,_ :: _,q,d,Q,h=>by simp [cAt] at h
 | .rangeFunc _ _ _ _,_ :: _,q,d,Q,h=>by simp [cAt] at h
 | .exit _,_ :: _,q,d,Q,h=>by simp [cAt] at h
 | .scope _,_ :: _,q,d,Q,h=>by simp [cAt] at h
 | .label _,_ :: _,q,d,Q,h=>by simp [cAt] at h
 | .goto _,_ :: _,q,d,Q,h=>by simp [cAt] at h
 | .ret,_ :: _,q,d,Q,h=>by simp [cAt] at h
 | .refuse _,_ :: _,q,d,Q,h=>by simp [cAt] at h
end Go.T
set_option linter.unusedVariables false
namespace Go.T
open Go Go.RowKit Go.Proofs
def FQ (R:St→Prop) : Exit→St→Prop:=fun e s=>(e = .normal∨e = .ret)∧R s
theorem Qri {E:Env} {c:Code} {Q:Exit→St→Prop}:kAt E c [] Q=Q:=by cases c <;> rfl
theorem Qr3 {c:Code}:cAt c []=some c:=by cases c <;> rfl
theorem Xg5 {E:Env} {c a b:Code} {Q:Exit→St→Prop} {p:List Bool} {s:St} (hc:cAt c p=some (.seq a b)) (h:WAt E c Q (p++[false]) s) : WAt E c Q p s:=by
 refine Qs6 hc (by simp) (Xhu ?_)
 have h1:cAt c (p++[false])=some a:=by rw [Qj1 hc];simp only [cAt,Qr3]
 have:=Ql7 h1 h
 rw [Qj3 hc] at this
 simpa only [kAt,Qri] using this
theorem Xap {E:Env} {c b:Code} {id:Nat} {Q:Exit→St→Prop} {p:List Bool} {s:St} (hc:cAt c p=some (.block id b)) (h:WAt E c Q (p++[false]) s) : WAt E c Q p s:=by
 refine Qs6 hc (by simp) (Xdt ?_)
 have h1:cAt c (p++[false])=some b:=by rw [Qj1 hc];simp only [cAt,Qr3]
 have:=Ql7 h1 h
 rw [Qj3 hc] at this
 simpa only [kAt,Qri] using this
theorem Xdl {E:Env} {c b:Code} {Q:Exit→St→Prop} {p:List Bool} {s:St} (hc:cAt c p=some (.loop b)) (h:WAt E c Q (p++[false]) s) : WAt E c Q p s:=by
 have h1:cAt c (p++[false])=some b:=by rw [Qj1 hc];simp only [cAt,Qr3]
 have:=Ql7 h1 h
 rw [Qj3 hc] at this
 simp only [kAt,Qri] at this
 unfold WAt
 rw [hc]
 exact Xf7 this
theorem Qxn {E:Env} {c x y:Code} {o:Operand} {Q:Exit→St→Prop} {p:List Bool} {s:St} {v:Bool} (hc:cAt c p=some (.cond o x y)) (hv:Qal s o = .lit (.bool v)) (h:WAt E c Q (p++[!v]) s) : WAt E c Q p s:=by
 refine Qs6 hc (by simp) (Xfh hv (fun hb=>?_) (fun hb=>?_))
 ·subst hb
  have h1:cAt c (p++[false])=some x:=by rw [Qj1 hc];simp only [cAt,Qr3]
  have:=Ql7 h1 h
  rw [Qj3 hc] at this
  simpa only [kAt,Qri] using this
 ·subst hb
  have h1:cAt c (p++[true])=some y:=by rw [Qj1 hc];simp only [cAt,Qr3]
  have:=Ql7 h1 h
  rw [Qj3 hc] at this
  simpa only [kAt,Qri] using this
def lB:List Bool→List Bool→Bool
 | [],[]=>true
 | true :: p,true :: q=>lB p q
 | false :: p,false :: q=>lB p q
 | _,_=>false
theorem Xim : ∀ {p q:List Bool},lB p q=true→p=q
 | [],[],_=>rfl
 | true :: p,true :: q,h=>by rw [Xim (p:=p) (q:=q) h]
 | false :: p,false :: q,h=>by rw [Xim (p:=p) (q:=q) h]
 | [],_ :: _,h=>by simp [lB] at h
 | _ :: _,[],h=>by simp [lB] at h
 | true :: _,false :: _,h=>by simp [lB] at h
 | false :: _,true :: _,h=>by simp [lB] at h
def oB:Option (List Bool)→Option (List Bool)→Bool
 | none,none=>true
 | some p,some q=>lB p q
 | _,_=>false
theorem oB_eq {p q:Option (List Bool)} (h:oB p q=true) : p=q:=by
 cases p <;> cases q <;> simp only [oB] at h
 ·rfl
 ·cases h
 ·cases h
 ·rw [Xim h]
def Xav (Θ:Tys) (P:PK) (n:Nat) (body:Code) (tgt:Option (List Bool)) : Nat→Bool→Option (List Bool)→Nat→St→List Hn→Option (Nat×St×List Hn×List Prop)
 | 0,_,_,_,_,_=>none
 | f+1,st,pt,k,s,hs =>
  if st && oB pt tgt then some (k,s,hs,[]) else
  match pt with
  | none=>none
  | some p=>match cAt body p with
   | some (.seq _ _)=>Xav Θ P n body tgt f true (some (p++[false])) k s hs
   | some (.block _ _)=>Xav Θ P n body tgt f true (some (p++[false])) k s hs
   | some (.loop _)=>Xav Θ P n body tgt f true (some (p++[false])) k s hs
   | some .skip=>Xav Θ P n body tgt f true (nxt body p) k s hs
   | some (.region _ ops draw)=>match Xiq Θ P n ops draw k s hs with
    | some (k1,s1,hs1,ps)=>match Xav Θ P n body tgt f true (nxt body p) k1 s1 hs1 with
     | some (k2,s2,hs2,qs)=>some (k2,s2,hs2,ps++qs)
     | none=>none
    | none=>none
   | some (.cond c _ _)=>match Qal s c with
    | .lit (.bool v)=>match (pop k hs).1.h with
     | .br b=>match Xav Θ P n body tgt f true (some (p++[!b])) (k+1) s (pop k hs).2 with
      | some (k2,s2,hs2,qs)=>some (k2,s2,hs2,(v=b) :: qs)
      | none=>none
     | .no=>Xav Θ P n body tgt f true (some (p++[!v])) (k+1) s hs
     | _=>none
    | _=>none
   | some (.exit id)=>match ext id body p with
    | some q=>Xav Θ P n body tgt f true q k s hs
    | none=>none
   | some .ret=>match tgt with
    | none=>some (k,s,hs,[])
    | some _=>none
   | _=>none
theorem Qfh {E:Env} {Θ:Tys} (hΘ:TOK E.P Θ) (hm:E.P.follows .mixedOrders=true) {body:Code} {tgt:Option (List Bool)} {R:St→Prop} : ∀ {f:Nat} {st:Bool} {pt:Option (List Bool)} {k k':Nat} {s s':St} {hs hs':List Hn} {ps:List Prop},
  Xav Θ E.pk E.n body tgt f st pt k s hs=some (k',s',hs',ps)→Qb0 ps→WN E body (FQ R) tgt s'→WN E body (FQ R) pt s
 | 0,st,pt,k,k',s,s',hs,hs',ps,h,_,_=>by simp [Xav] at h
 | f+1,st,pt,k,k',s,s',hs,hs',ps,h,hp,hw=>by
  simp only [Xav] at h
  split at h
  ·rename_i hst
   simp only [Bool.and_eq_true] at hst
   rw [oB_eq hst.2]
   cases h
   exact hw
  ·split at h
   ·cases h
   rename_i p
   split at h
   ·rename_i hc;exact Xg5 hc (Qfh hΘ hm h hp hw)
   ·rename_i hc;exact Xap hc (Qfh hΘ hm h hp hw)
   ·rename_i hc;exact Xdl hc (Qfh hΘ hm h hp hw)
   ·rename_i hc
    refine Qs6 hc (by simp) (Xfq (Qhw ?_))
    exact Qfh hΘ hm h hp hw
   ·rename_i hc
    split at h
    case h_2=>cases h
    rename_i hr
    split at h
    case h_2=>cases h
    rename_i he
    cases h
    obtain ⟨h1,h2⟩:=Qaq hp
    exact Qs6 hc (by simp) (Qyh hΘ hm hr h1 (Qhw (Qfh hΘ hm he h2 hw)))
   ·rename_i hc
    split at h
    case h_2=>cases h
    rename_i v hv
    split at h
    ·rename_i b hb
     split at h
     case h_2=>cases h
     rename_i he
     cases h
     obtain ⟨h1,h2⟩:=hp
     subst h1
     exact Qxn hc hv (Qfh hΘ hm he h2 hw)
    ·exact Qxn hc hv (Qfh hΘ hm h hp hw)
    ·cases h
   ·rename_i hc
    split at h
    case h_2=>cases h
    rename_i q hq
    exact Qs6 hc (by simp) (Xg7 (Qgw hq (Qfh hΘ hm h hp hw)))
   ·rename_i hc
    split at h
    case h_2=>cases h
    cases h
    exact Qs6 hc (by simp) (Xi7 (Qiz ⟨.inr rfl,hw.2⟩))
   ·cases h
def Xkt (s:St) (π0:List (Nat×Nat)) : List (Nat×Nat)→Option (List (Nat×Nat×Qae)×List Prop)
 | []=>some ([],[])
 | (i,j) :: r=>match s.root i,Xkt s π0 r with
  | some R,some (l,ps)=>some ((i,j,R) :: l,(Qa6 π0 R.xs) :: ps)
  | _,_=>none
theorem Qu0 {s:St} {π0:List (Nat×Nat)} : ∀ {π:List (Nat×Nat)} {l:List (Nat×Nat×Qae)} {ps:List Prop},Xkt s π0 π=some (l,ps)→Qb0 ps→okRt s π0 l∧piR l=π
 | [],l,ps,h,hp=>by simp only [Xkt] at h;cases h;exact ⟨trivial,rfl⟩
 | (i,j) :: r,l,ps,h,hp=>by
  simp only [Xkt] at h
  split at h
  case h_2=>cases h
  rename_i R l' qs hR hr
  cases h
  obtain ⟨h1,h2⟩:=Qu0 hr hp.2
  exact ⟨⟨⟨hR,hp.1⟩,h1⟩,by simp only [piR] at h2;simp only [piR,List.map_cons,h2]⟩
def kpC (s:St) (π:List (Nat×Nat)) (kp:List Nat) (t:Nat) : AV:=if kp.contains t then s.get t else Qe3 π (s.get t)
def kpP (s:St) (kp:List Nat) : List Nat→List Prop
 | []=>[]
 | t :: ts=>if kp.contains t then (Qw6 (s.get t)=true) :: kpP s kp ts else kpP s kp ts
theorem Xi6 {s:St} {π:List (Nat×Nat)} {kp:List Nat} : ∀ {ts:List Nat},Qb0 (kpP s kp ts)→Xey s π (ts.map fun t=>(t,kpC s π kp t))
 | [],_=>trivial
 | t :: ts,h=>by
  simp only [kpP] at h
  split at h
  ·rename_i hk
   exact ⟨by simp only [kpC,hk,if_true];exact Qwg π _ h.1,Xi6 h.2⟩
  ·rename_i hk
   exact ⟨by simp only [kpC,hk];rfl,Xi6 h⟩
def toC (fr:List Nat) (s:St) (π:List (Nat×Nat)) (ts kp:List Nat) : Option (St×List Prop):=
 if okPi π && (fr.all fun i=>π.lookup i == some i) then match Xkt s π π with
  | some (l,ps)=>some (⟨ts.map fun t=>(t,kpC s π kp t),l.map fun x=>(x.2.1,some x.2.2),π.map (·.2)++[JJ]⟩,ps++kpP s kp ts)
  | none=>none
 else none
theorem Xby {E:Env} {fr:List Nat} (hfx : ∀ p,p∈E.fx→p.1∈fr) {s s':St} {π:List (Nat×Nat)} {ts kp:List Nat} {ps:List Prop} (h:toC fr s π ts kp=some (s',ps)) (hp:Qb0 ps) : Ent E s s':=by
  unfold toC at h
  split at h
  case isFalse=>cases h
  rename_i hc
  simp only [Bool.and_eq_true] at hc
  split at h
  case h_2=>cases h
  rename_i l qs hr
  cases h
  obtain ⟨hp1,hp2⟩:=Qaq hp
  obtain ⟨h1,h2⟩:=Qu0 hr hp1
  have:=Xkj E (ts.map fun t=>(t,kpC s π kp t)) l (by rw [h2];exact hc.1) (by
    rw [h2]
    simp only [fxB,List.all_eq_true]
    intro p hpm
    have:=hc.2
    rw [List.all_eq_true] at this
    exact this _ (hfx p hpm)) (by rw [h2];exact Xi6 hp2) (by rw [h2];exact h1)
  rw [h2] at this
  exact this
def Xha (Θ:Tys) (P:PK) (n:Nat) (body:Code) (fr:List Nat) (pt tgt:List Bool) (s:St) (hs:List Hn) (π:List (Nat×Nat)) (ts kp:List Nat) : Option (St×List Prop):=
 match Xav Θ P n body (some tgt) 10000 false (some pt) 0 s hs with
 | some (k,s1,hs1,ps)=>match ghs k hs1 s1 with
  | some (s2,[],qs)=>match toC fr s2 π ts kp with
   | some (s3,rs)=>some (s3,ps++(qs++rs))
   | none=>none
  | _=>none
 | none=>none
theorem go_to {E:Env} {Θ:Tys} (hΘ:TOK E.P Θ) (hm:E.P.follows .mixedOrders=true) {body:Code} {fr:List Nat} (hfx : ∀ p,p∈E.fx→p.1∈fr) {R:St→Prop} {P:PK} (hP:E.pk=P) {n:Nat} (hn:E.n=n) {pt tgt:List Bool} {s s':St} {hs:List Hn} {π:List (Nat×Nat)} {ts kp:List Nat} {ps:List Prop}
  (h:Xha Θ P n body fr pt tgt s hs π ts kp=some (s',ps)) (hp:Qb0 ps) (hk:WAt E body (FQ R) tgt s') : WAt E body (FQ R) pt s:=by
 subst hP;subst hn
 unfold Xha at h
 split at h
 case h_2=>cases h
 rename_i k s1 hs1 qs he
 split at h
 case h_2=>cases h
 rename_i s2 rs hg
 split at h
 case h_2=>cases h
 rename_i s3 us ht
 cases h
 obtain ⟨h1,h2⟩:=Qaq hp
 obtain ⟨h3,h4⟩:=Qaq h2
 refine Qfh hΘ hm he h1 ?_
 have hent:=(Qhq hg h3).trans (Xby hfx ht h4)
 show WAt E body (FQ R) tgt s1
 unfold WAt at hk ⊢
 split at hk
 ·exact fun a w hr=>hk a w (hent a w hr)
 ·exact Quo hent hk
 ·exact hk
inductive PH where
 | raw
 | own
 | ownS
 | ro
 | ref
 | agg (l:List PH)
def Xcc (Θ:Tys) (s:St) (h:H) : ResultVar→Option (AV×List Prop)
 | .tmp t=>some (s.get t,[])
 | .cell p t=>Xfw Θ s t h (s.get p)
def Qsh (Θ:Tys) (s:St) : List H→List ResultVar→Option (List AV×List Prop)
 | _,[]=>some ([],[])
 | h :: hs,r :: rs=>match Xcc Θ s h r,Qsh Θ s hs rs with
  | some (x,ps),some (xs,qs)=>some (x :: xs,ps++qs)
  | _,_=>none
 | [],r :: rs=>match Xcc Θ s .no r,Qsh Θ s [] rs with
  | some (x,ps),some (xs,qs)=>some (x :: xs,ps++qs)
  | _,_=>none
theorem Qru {Θ:Tys} {s:St} {h:H} {r:ResultVar} {x:AV} {ps:List Prop} (he:Xcc Θ s h r=some (x,ps)) (hp:Qb0 ps) : resV Θ s r=some x:=by
 cases r with
 | tmp t=>simp only [Xcc] at he;cases he;rfl
 | cell p t=>simp only [Xcc] at he;exact Qry he hp
theorem Qlb {Θ:Tys} {s:St} : ∀ {hs:List H} {rs:List ResultVar} {xs:List AV} {ps:List Prop},Qsh Θ s hs rs=some (xs,ps)→Qb0 ps→Quy Θ s rs=some xs
 | hs,[],xs,ps,he,hp=>by cases hs <;> (simp only [Qsh] at he;cases he;rfl)
 | h :: hs,r :: rs,xs,ps,he,hp=>by
  simp only [Qsh] at he
  split at he
  case h_2=>cases he
  rename_i h1 h2
  cases he
  obtain ⟨p1,p2⟩:=Qaq hp
  simp only [Quy,Qru h1 p1,Qlb h2 p2]
 | [],r :: rs,xs,ps,he,hp=>by
  simp only [Qsh] at he
  split at he
  case h_2=>cases he
  rename_i h1 h2
  cases he
  obtain ⟨p1,p2⟩:=Qaq hp
  simp only [Quy,Qru h1 p1,Qlb h2 p2]
mutual
def pkC (s:St) (ks:List Bool) : PH→AV→AV→Option (List Prop×List Nat)
 | .raw,x,y=>some ([x=y,Qa8 y=true],[])
 | .own,x,y=>match y with
  | .own T sz zs=>match x with
   | .lit (.slice none 0 0)=>match zs with
    | []=>some ([],[])
    | _=>none
   | .sl i 0 len=>match s.root i with
    | some R=>if R.T=T then (if R.sz=sz then (if ks[i]? == some true then none else some ([Qa1 (R.xs.take len)=true,R.xs.take len=zs,Qa4 zs=true],[i])) else none) else none
    | none=>none
   | _=>none
  | _=>none
 | .ownS,x,y=>match y with
  | .own T sz zs=>match x with
   | .sl i 0 len=>match s.root i with
    | some R=>if R.T=T then (if R.sz=sz then (if ks.isEmpty then some ([Qa1 (R.xs.take len)=true,R.xs.take len=zs],[i]) else none) else none) else none
    | none=>none
   | _=>none
  | _=>none
 | .ro,x,y=>match x,y with
  | .ro sz xs,.ro sz' xs'=>if sz=sz' then (if ks.isEmpty then some ([xs=xs'],[]) else none) else none
  | _,_=>none
 | .ref,x,y=>match x,y with
  | .sl i off len,.sl i' off' len'=>if i=i' then (if ks[i]? == some true then some ([off=off',len=len'],[]) else none) else none
  | _,_=>none
 | .agg l,x,y=>match x,y with
  | .agg cs,.agg ds=>Xf4 s ks l cs ds
  | .tup cs,.tup ds=>Xf4 s ks l cs ds
  | _,_=>none
def Xf4 (s:St) (ks:List Bool) : List PH→List AV→List AV→Option (List Prop×List Nat)
 | [],[],[]=>some ([],[])
 | h :: hs,c :: cs,d :: ds=>match pkC s ks h c d,Xf4 s ks hs cs ds with
  | some (ps,is),some (qs,js)=>some (ps++qs,is++js)
  | _,_=>none
 | _,_,_=>none
end
mutual
theorem Qz8 {w:World} {S U S2 U2:Nat→Prop} {ρ ρ2:Tab} : ∀ (x:AV) (u:Value) (f:List Nat),Qa8 x=true→repR w S U ρ x u f→repR w S2 U2 ρ2 x u []
 | .lit v,u,f,_,hr=>by simp only [repR,rep] at hr ⊢; exact ⟨trivial,hr.2⟩
 | .agg cs,u,f,h,hr=>by
  simp only [Qa8] at h
  simp only [repR] at hr ⊢
  obtain ⟨vs,rfl,hr⟩:=hr
  exact ⟨vs,rfl,Qs7 cs vs f h hr⟩
 | .tup cs,u,f,h,hr=>by
  simp only [Qa8] at h
  simp only [repR] at hr ⊢
  obtain ⟨vs,rfl,hr⟩:=hr
  exact ⟨vs,rfl,Qs7 cs vs f h hr⟩
 | .dead,_,_,h,_=>by simp [Qa8] at h
 | .ro _ _,_,_,h,_=>by simp [Qa8] at h
 | .own _ _ _,_,_,h,_=>by simp [Qa8] at h
 | .sl _ _ _,_,_,h,_=>by simp [Qa8] at h
 | .ptr _ _ _,_,_,h,_=>by simp [Qa8] at h
 | .rop _ _,_,_,h,_=>by simp [Qa8] at h
 | .fn _ _,_,_,h,_=>by simp [Qa8] at h
theorem Qs7 {w:World} {S U S2 U2:Nat→Prop} {ρ ρ2:Tab} : ∀ (xs:List AV) (us:List Value) (f:List Nat),Qsy xs=true→Qah w S U ρ xs us f→Qah w S2 U2 ρ2 xs us []
 | [],us,f,_,hr=>by simp only [Qah] at hr ⊢; exact ⟨hr.1,trivial⟩
 | c :: cs,us,f,h,hr=>by
  simp only [Qsy,Bool.and_eq_true] at h
  simp only [Qah] at hr ⊢
  obtain ⟨u,us',f1,f2,rfl,rfl,h1,h2⟩:=hr
  exact ⟨u,us',[],[],rfl,rfl,Qz8 c u f1 h.1 h1,Qs7 cs us' f2 h.2 h2⟩
end
def roS (ks:List Bool) (χ:Nat→Option Nat) (w:World) : Nat→Prop:=fun b=>ks.isEmpty=true∧Qbg χ w b
mutual
theorem Qx9 {E:Env} {s:St} {ks:List Bool} {a:Act} {w:World} {χ:Nat→Option Nat} {hd:Nat→Value} {ρ:Tab} (h:Qci E s a w χ hd) (hρ : ∀ i,ks[i]? = some true→ρ i=tab s hd i) :
  ∀ (p:PH) (x y:AV) (ps:List Prop) (is:List Nat) (u:Value),repR w (Qbg χ w) (· ∈ s.us) (tab s hd) x u []→pkC s ks p x y=some (ps,is)→Qb0 ps→is.Nodup→∃ g,repR w (roS ks χ w) (fun i=>ks[i]? = some true) ρ y u g∧g.Nodup∧(∀ b∈g,∃ i∈is,χ b=some i∧i≠JJ∧ks[i]? ≠ some true)
 | .raw,x,y,ps,is,u,hr,he,hp,hn=>by
  simp only [pkC] at he
  cases he
  obtain ⟨rfl,h2,_⟩:=hp
  exact ⟨[],Qz8 _ _ _ h2 hr,by simp,by simp⟩
 | .own,x,y,ps,is,u,hr,he,hp,hn=>by
  simp only [pkC] at he
  split at he
  case h_2=>cases he
  rename_i T sz zs
  split at he
  ·split at he
   case h_2=>cases he
   cases he
   have:=Qgh hr
   subst this
   exact ⟨[],by simp only [repR,rep];exact ⟨[],[],World.ownsRow_nil w 0 _ _,by simp [Qdt],by simp [Value.ownBlock]⟩,by simp,by simp⟩
  ·rename_i i len
   split at he
   case h_2=>cases he
   rename_i R hR
   split at he
   case isFalse=>cases he
   rename_i hT
   split at he
   case isFalse=>cases he
   rename_i hS
   split at he
   case isTrue=>cases he
   rename_i hk
   cases he
   obtain ⟨h1,h2,h3,_⟩:=hp
   obtain ⟨g,g1,g2,g3⟩:=Quk h (.sl i 0 len) (.own T sz zs) u [] hr rfl (by simp only [pk,hR];rw [if_pos h1,h2,hT,hS]) (by simp [pkI])
   refine ⟨g,?_,g2,fun b hb=>?_⟩
   ·simp only [repR]
    exact Qqt _ _ _ g1 h3
   ·obtain ⟨j,hj,h4,h5⟩:=g3 b hb
    have:j=i:=by simpa [pkI] using hj
    subst this
    exact ⟨j,by simp,h4,h5,by simpa using hk⟩
  ·cases he
 | .ownS,x,y,ps,is,u,hr,he,hp,hn=>by
  simp only [pkC] at he
  split at he
  case h_2=>cases he
  rename_i T sz zs
  split at he
  case h_2=>cases he
  rename_i i len
  split at he
  case h_2=>cases he
  rename_i R hR
  split at he
  case isFalse=>cases he
  rename_i hT
  split at he
  case isFalse=>cases he
  rename_i hS
  split at he
  case isFalse=>cases he
  rename_i hk
  cases he
  obtain ⟨h1,h2,_⟩:=hp
  obtain ⟨g,g1,g2,g3⟩:=Quk h (.sl i 0 len) (.own T sz zs) u [] hr rfl (by simp only [pk,hR];rw [if_pos h1,h2,hT,hS]) (by simp [pkI])
  refine ⟨g,?_,g2,fun b hb=>?_⟩
  ·simp only [repR]
   exact Qbl _ _ _ g1 (fun b hb=>⟨hk,hb⟩) (fun _ _=>rfl) (fun _ _=>rfl)
  ·obtain ⟨j,hj,h4,h5⟩:=g3 b hb
   have:j=i:=by simpa [pkI] using hj
   subst this
   refine ⟨j,by simp,h4,h5,?_⟩
   have:ks=[]:=by simpa using hk
   rw [this];simp
 | .ro,x,y,ps,is,u,hr,he,hp,hn=>by
  simp only [pkC] at he
  split at he
  case h_2=>cases he
  split at he
  case isFalse=>cases he
  rename_i hs
  split at he
  case isFalse=>cases he
  rename_i hk
  cases he
  obtain ⟨h1,_⟩:=hp
  subst h1;subst hs
  simp only [repR] at hr ⊢
  exact ⟨[],Qbl _ _ _ hr (fun b hb=>⟨hk,hb⟩) (fun _ _=>rfl) (by simp),by simp,by simp⟩
 | .ref,x,y,ps,is,u,hr,he,hp,hn=>by
  simp only [pkC] at he
  split at he
  case h_2=>cases he
  rename_i i off len i' off' len'
  split at he
  case isFalse=>cases he
  rename_i hi
  split at he
  case isFalse=>cases he
  rename_i hk
  cases he
  obtain ⟨h1,h2,_⟩:=hp
  subst h1;subst h2;subst hi
  have hk:ks[i]? = some true:=by simpa using hk
  simp only [repR] at hr ⊢
  exact ⟨[],⟨rfl,hk,by rw [hρ i hk];exact hr.2.2⟩,by simp,by simp⟩
 | .agg l,x,y,ps,is,u,hr,he,hp,hn=>by
  simp only [pkC] at he
  split at he
  ·rename_i cs ds
   simp only [repR] at hr ⊢
   obtain ⟨vs,rfl,hr⟩:=hr
   obtain ⟨g,g1,g2,g3⟩:=Qpk h hρ l cs ds ps is vs hr he hp hn
   exact ⟨g,⟨vs,rfl,g1⟩,g2,g3⟩
  ·rename_i cs ds
   simp only [repR] at hr ⊢
   obtain ⟨vs,rfl,hr⟩:=hr
   obtain ⟨g,g1,g2,g3⟩:=Qpk h hρ l cs ds ps is vs hr he hp hn
   exact ⟨g,⟨vs,rfl,g1⟩,g2,g3⟩
  ·cases he
theorem Qpk {E:Env} {s:St} {ks:List Bool} {a:Act} {w:World} {χ:Nat→Option Nat} {hd:Nat→Value} {ρ:Tab} (h:Qci E s a w χ hd) (hρ : ∀ i,ks[i]? = some true→ρ i=tab s hd i) :
  ∀ (l:List PH) (xs ys:List AV) (ps:List Prop) (is:List Nat) (us:List Value),Qah w (Qbg χ w) (· ∈ s.us) (tab s hd) xs us []→Xf4 s ks l xs ys=some (ps,is)→Qb0 ps→is.Nodup→∃ g,Qah w (roS ks χ w) (fun i=>ks[i]? = some true) ρ ys us g∧g.Nodup∧(∀ b∈g,∃ i∈is,χ b=some i∧i≠JJ∧ks[i]? ≠ some true)
 | [],[],[],ps,is,us,hr,he,hp,hn=>by
  simp only [Qah] at hr ⊢
  exact ⟨[],⟨hr.1,rfl⟩,by simp,by simp⟩
 | p :: l,c :: cs,d :: ds,ps,is,us,hr,he,hp,hn=>by
  simp only [Xf4] at he
  split at he
  case h_2=>cases he
  rename_i qs js rs ks' h1 h2
  cases he
  simp only [Qah] at hr ⊢
  obtain ⟨u,us',f1,f2,rfl,hf',k1,k2⟩:=hr
  obtain ⟨rfl,rfl⟩:=List.append_eq_nil_iff.1 hf'.symm
  obtain ⟨p1,p2⟩:=Qaq hp
  rw [List.nodup_append] at hn
  obtain ⟨g1,a1,a2,a3⟩:=Qx9 h hρ p c d qs js u k1 h1 p1 hn.1
  obtain ⟨g2,b1,b2,b3⟩:=Qpk h hρ l cs ds rs ks' us' k2 h2 p2 hn.2.1
  refine ⟨g1++g2,⟨u,us',g1,g2,rfl,rfl,a1,b1⟩,?_,?_⟩
  ·rw [List.nodup_append]
   refine ⟨a2,b2,?_⟩
   intro b hb b' hb' e
   subst e
   obtain ⟨i,hi,hi2,_⟩:=a3 b hb
   obtain ⟨j,hj,hj2,_⟩:=b3 b hb'
   rw [hi2] at hj2;cases hj2
   exact hn.2.2 i hi i hj rfl
  ·intro b hb
   rcases List.mem_append.1 hb with hb | hb
   ·obtain ⟨i,hi,hx⟩:=a3 b hb;exact ⟨i,List.mem_append_left _ hi,hx⟩
   ·obtain ⟨i,hi,hx⟩:=b3 b hb;exact ⟨i,List.mem_append_right _ hi,hx⟩
 | [],[],_ :: _,_,_,_,_,he,_,_=>by simp [Xf4] at he
 | [],_ :: _,_,_,_,_,_,he,_,_=>by simp [Xf4] at he
 | _ :: _,[],_,_,_,_,_,he,_,_=>by simp [Xf4] at he
 | _ :: _,_ :: _,[],_,_,_,_,he,_,_=>by simp [Xf4] at he
end
def Xfe (s:St) (ks:List Bool) : Nat→List Qae→Option (List Prop)
 | _,[]=>some []
 | i,R :: rs=>match Xfe s ks (i+1) rs with
  | some ps=>if ks[i]? == some true then match s.root i with
    | some Q=>if Q.T=R.T then (if Q.sz=R.sz then some ((Q.xs=R.xs) :: (Qa1 R.xs=true) :: (Qa4 R.xs=true) :: ps) else none) else none
    | none=>none
   else some ps
  | none=>none
def Kept (s:St) (ks:List Bool) (rs:List Qae) : Prop:=∀ (i:Nat) (R:Qae),rs[i]? = some R→ks[i]? = some true→s.root i=some R∧Qa1 R.xs=true∧Qa4 R.xs=true
theorem Qzu {s:St} {ks:List Bool} : ∀ {rs:List Qae} {k:Nat} {ps:List Prop},Xfe s ks k rs=some ps→Qb0 ps→∀ (i:Nat) (R:Qae),rs[i]? = some R→ks[k+i]? = some true→s.root (k+i)=some R∧Qa1 R.xs=true∧Qa4 R.xs=true
 | [],k,ps,h,hp,i,R,hR,_=>by simp at hR
 | X :: rs,k,ps,h,hp,i,R,hR,hk=>by
  simp only [Xfe] at h
  split at h
  case h_2=>cases h
  rename_i qs hq
  cases i with
  | zero =>
   simp at hR
   subst hR
   rw [Nat.add_zero] at hk ⊢
   rw [hk] at h
   simp only [beq_self_eq_true,if_true] at h
   split at h
   case h_2=>cases h
   rename_i Q hQ
   split at h
   case isFalse=>cases h
   rename_i hT
   split at h
   case isFalse=>cases h
   rename_i hS
   cases h
   obtain ⟨h1,h2,h3,_⟩:=hp
   refine ⟨?_,h2,h3⟩
   rw [hQ]
   obtain ⟨qT,qS,qx⟩:=Q
   obtain ⟨rT,rS,rx⟩:=X
   simp only at hT hS h1
   rw [hT,hS,h1]
  | succ i =>
   have hp':Qb0 qs:=by
    split at h
    ·split at h
     case h_2=>cases h
     split at h
     case isFalse=>cases h
     split at h
     case isFalse=>cases h
     cases h
     exact hp.2.2.2
    ·cases h;exact hp
   have:=Qzu hq hp' i R (by simpa using hR) (by rw [show k+1+i=k+(i+1) by omega];exact hk)
   rw [show k+1+i=k+(i+1) by omega] at this
   exact this
def Qdu (Θ:Tys) (rv:List ResultVar) (ks:List Bool) (rs:List Qae) (res:AV) (E:Env) (s:St) : Prop:=
 ∃ s',Ent E s s'∧∃ xs,Quy Θ s' rv=some xs∧Kept s' ks rs ∧
  ∀ a w χ hd ρ,Qci E s' a w χ hd→(∀ i,ks[i]? = some true→ρ i=tab s' hd i)→∀ u,repR w (Qbg χ w) (· ∈ s'.us) (tab s' hd) (one xs) u [] →
   ∃ g,repR w (roS ks χ w) (fun i=>ks[i]? = some true) ρ res u g∧g.Nodup∧∀ b∈g,∃ i,χ b=some i∧i≠JJ∧ks[i]? ≠ some true
def Xdy (Θ:Tys) (P:PK) (n:Nat) (body:Code) (rv:List ResultVar) (ks:List Bool) (rs:List Qae) (pt:List Bool) (s:St) (hs:List Hn) (rh:List H) (ph:PH) (res:AV) : Option (List Prop):=
 match Xav Θ P n body none 10000 false (some pt) 0 s hs with
 | some (k,s1,hs1,ps)=>match ghs k hs1 s1 with
  | some (s2,[],qs)=>match Qsh Θ s2 rh rv with
   | some (xs,rs')=>match Xfe s2 ks 0 rs,pkC s2 ks ph (one xs) res with
    | some ks',some (ts,is)=>if ndB is then some (ps++(qs++(rs'++(ks'++ts)))) else none
    | _,_=>none
   | none=>none
  | _=>none
 | none=>none
theorem go_ret {E:Env} {Θ:Tys} (hΘ:TOK E.P Θ) (hm:E.P.follows .mixedOrders=true) {body:Code} {P:PK} (hP:E.pk=P) {n:Nat} (hn:E.n=n) {rv:List ResultVar} {ks:List Bool} {rs:List Qae} {pt:List Bool} {s:St} {hs:List Hn} {rh:List H} {ph:PH} {res:AV} {ps:List Prop}
  (h:Xdy Θ P n body rv ks rs pt s hs rh ph res=some ps) (hp:Qb0 ps) : WAt E body (FQ (Qdu Θ rv ks rs res E)) pt s:=by
 subst hP;subst hn
 unfold Xdy at h
 split at h
 case h_2=>cases h
 rename_i k s1 hs1 qs he
 split at h
 case h_2=>cases h
 rename_i s2 rs' hg
 split at h
 case h_2=>cases h
 rename_i xs vs hx
 split at h
 case h_2=>cases h
 rename_i kps ts is hkp hpk
 split at h
 case isFalse=>cases h
 rename_i hnd
 cases h
 obtain ⟨h1,h2⟩:=Qaq hp
 obtain ⟨h3,h4⟩:=Qaq h2
 obtain ⟨h5,h6⟩:=Qaq h4
 obtain ⟨h7,h8⟩:=Qaq h6
 refine Qfh (tgt:=none) hΘ hm he h1 ?_
 refine ⟨.inl rfl,s2,Qhq hg h3,xs,Qlb hx h5,fun i R hR hk=>?_,?_⟩
 ·have:=Qzu hkp h7 i R hR (by rw [Nat.zero_add];exact hk)
  rw [Nat.zero_add] at this
  exact this
 ·intro a w χ hd ρ hr hρ u hu
  obtain ⟨g,g1,g2,g3⟩:=Qx9 hr hρ _ _ _ _ _ u hu hpk h8 (Qlh hnd)
  exact ⟨g,g1,g2,fun b hb=>by obtain ⟨i,_,hi⟩:=g3 b hb;exact ⟨i,hi⟩⟩
end Go.T
set_option linter.unusedVariables false
namespace Go.T
open Go Go.RowKit Go.Proofs
mutual
theorem Xd7 {w:World} {S U:Nat→Prop} {ρ:Tab} (hU : ∀ i,¬ U i) : ∀ (x:AV) (u:Value) (f:List Nat),repR w S U ρ x u f→rep w S x u f
 | .sl i _ _,u,f,hr=>by simp only [repR] at hr;exact absurd hr.2.1 (hU i)
 | .ptr i _ _,u,f,hr=>by simp only [repR] at hr;exact absurd hr.2.1 (hU i)
 | .agg cs,u,f,hr=>by
  simp only [repR] at hr
  simp only [rep]
  obtain ⟨vs,hu,hr⟩:=hr
  exact ⟨vs,hu,Qqy hU cs vs f hr⟩
 | .tup cs,u,f,hr=>by
  simp only [repR] at hr
  simp only [rep]
  obtain ⟨vs,hu,hr⟩:=hr
  exact ⟨vs,hu,Qqy hU cs vs f hr⟩
 | .fn g cs,u,f,hr=>by
  simp only [repR] at hr
  simp only [rep]
  obtain ⟨vs,hu,hr⟩:=hr
  exact ⟨vs,hu,Qqy hU cs vs f hr⟩
 | .dead,u,f,hr=>by simpa only [repR] using hr
 | .lit _,u,f,hr=>by simpa only [repR] using hr
 | .ro _ _,u,f,hr=>by simpa only [repR] using hr
 | .own _ _ _,u,f,hr=>by simpa only [repR] using hr
 | .rop _ _,u,f,hr=>by simpa only [repR] using hr
theorem Qqy {w:World} {S U:Nat→Prop} {ρ:Tab} (hU : ∀ i,¬ U i) : ∀ (xs:List AV) (us:List Value) (f:List Nat),Qah w S U ρ xs us f→Qfm w S xs us f
 | [],us,f,hr=>by simpa only [Qah,Qfm] using hr
 | c :: cs,us,f,hr=>by
  simp only [Qah] at hr
  simp only [Qfm]
  obtain ⟨u,us',f1,f2,hv,hf,h1,h2⟩:=hr
  exact ⟨u,us',f1,f2,hv,hf,Xd7 hU c u f1 h1,Qqy hU cs us' f2 h2⟩
end
open Classical in
theorem Qte {P:Program} {Θ:Tys} (hΘ:TOK P Θ) {f:FuncId} {fn:Func} {c:Code} (hf:P.funcs[f]? = some fn) (hb:fn.body=some c) {args:List AV} {res:AV} (hn:args.length≤fn.ntmps) {K:KF} {w:World} {S:Nat→Prop} {vals:List Value} (hv:Qfm w S args vals []) (hS : ∀ b,S b→b<w.heap.size) (hK:K.k (fun b=>b<w.heap.size∧¬ False) w)
  (h : ∀ E:Env,E.pk=⟨P,K⟩→E.n=fn.ntmps→(∀ p,p∈E.fx→p.1∈([] : List Nat))→WAt E c (FQ (Qdu Θ fn.results.toList [] [] res E)) [] (Qw5 args)) :
  Calls P f vals.toArray w (fun e w' => ∃ v fp,e = .returned v∧Below w.heap.size w w'∧w.drawn≤w'.drawn∧rep w' (fun b=>(S b∨w.heap.size≤b)∧b<w'.heap.size∧b ∉ fp) res v fp∧fp.Nodup∧∀ b∈fp,w.heap.size≤b):=by
 have hvl:=Qsf _ _ _ hv
 refine calls_of_wp hf hb ?_
 let E:Env:=⟨P,w,fn.ntmps,fun _=>False,fun b=>b<w.heap.size∧¬ S b,[],K,hK⟩
 let χ:Nat→Option Nat:=fun b=>if b<w.heap.size∧¬ S b then some JJ else none
 have hfree : ∀ b,S b→Qbg χ w b:=fun b hb=>⟨by simp [χ,hb],hS b hb⟩
 have hrel:Qci E (Qw5 args) { tmps:=vals.toArray++Array.replicate (fn.ntmps - vals.toArray.size) undef,defers:=[] } w χ (fun _=>undef):=by
  refine ⟨rfl,by simp [E];omega,rfl,Tp.refl _,rfl,Nat.le_refl _,fun _ _ _=>rfl,(fun _ h=>by cases h),by simp [Qw5],rfl,fun b hb=>by simp only [χ];rw [if_pos hb],?_,?_,?_⟩
  ·intro b r hbr
   simp only [χ] at hbr
   split at hbr
   ·rename_i hh;cases hbr;exact ⟨fun e=>absurd rfl e,hh.1⟩
   ·cases hbr
  ·intro i R hR
   simp [St.root,Qw5] at hR
  ·intro t
   rw [Xbr]
   cases ht:args[t]? with
   | none=>exact Qdk _
   | some x =>
    obtain ⟨v,hvt,hr⟩:=Xa0 _ _ _ _ hv ht
    have:(vals.toArray++Array.replicate (fn.ntmps - vals.toArray.size) undef).getD t undef=v:=by
     have hlt:t<vals.length:=(List.getElem?_eq_some_iff.1 hvt).1
     rw [Array.getD_eq_getD_getElem?,Array.getElem?_append_left (by simpa using hlt)]
     simp [hvt]
    simp only [Option.getD_some]
    rw [this]
    exact Qr2 _ _ _ (Qbl _ _ _ hr hfree (fun _ _=>rfl) (fun _ _=>rfl))
 refine wp_mono (Qzc (h E rfl rfl (fun p hp=>by cases hp)) _ w ⟨χ,_,hrel⟩) ?_
 rintro e a' w' ⟨s0,⟨he,s',hent,xs,hxs,_,hpk⟩,hr0⟩
 obtain ⟨χ',hd',hr⟩:=hent a' w' hr0
 obtain ⟨v,hv1,hv2⟩:=Qro (E:=E) hΘ hr hxs
 obtain ⟨g,hg1,hg2,hg3⟩:=hpk a' w' χ' hd' (fun _=>none) hr (fun i hi=>by simp at hi) v hv2
 have hg1:=Xd7 (fun i hi=>by simp at hi) _ _ _ hg1
 have hR : ∃ v2 fp,Ending.returned v = .returned v2∧Below w.heap.size w w'∧w.drawn≤w'.drawn∧rep w' (fun b=>(S b∨w.heap.size≤b)∧b<w'.heap.size∧b ∉ fp) res v2 fp∧fp.Nodup∧∀ b∈fp,w.heap.size≤b:=by
  refine ⟨v,g,rfl,⟨hr.os,hr.tape.1,hr.output,hr.hsz,fun k hk=>hr.frame k hk (fun h=>h)⟩,hr.tape.2,?_,hg2,?_⟩
  ·refine Qbl _ _ _ hg1 (fun b hb=>⟨?_,hb.2.2,?_⟩) (fun _ _=>rfl) (fun _ _=>rfl)
   ·by_cases hlt:b<w.heap.size
    ·left
     apply Classical.byContradiction
     intro hns
     have:=hr.jk b ⟨hlt,hns⟩
     rw [hb.2.1] at this;cases this
    ·right;omega
   ·intro hm
    obtain ⟨i,hi,_⟩:=hg3 b hm
    rw [hb.2.1] at hi;cases hi
  ·intro b hb
   obtain ⟨i,hi,hij,_⟩:=hg3 b hb
   rcases (hr.col b i hi).1 hij with h1 | h1
   ·exact h1
   ·exact h1.elim
 rcases he with rfl | rfl
 ·exact ⟨hr.defers,v,hv1,hR⟩
 ·exact ⟨hr.defers,v,hv1,hR⟩
theorem Xd9 {P:Program} {Θ:Tys} (hΘ:TOK P Θ) {f:FuncId} {fn:Func} {c:Code} (hf:P.funcs[f]? = some fn) (hname:(fn.name == "runtime.NumGoroutine")=false) (hb:fn.body=some c) {args:List AV} {res:AV} (hn:args.length≤fn.ntmps)
  (h : ∀ E:Env,E.pk=pk0 P→E.n=fn.ntmps→(∀ p,p∈E.fx→p.1∈([] : List Nat))→WAt E c (FQ (Qdu Θ fn.results.toList [] [] res E)) [] (Qw5 args)) : Qab P f args res:=
 ⟨enters_of hf hname hb,fun w S vals hv hS=>Qte hΘ hf hb hn (K:=kf0) hv hS trivial h⟩
def kv (A:Option Addr) (l:List Int) : KF where
 k B w:=l=[]∨∃ b o,A=some ⟨b,o,none⟩∧B b∧At w b o (l.map (Value.int .u8))
 mono h k:=by
  rcases k with k | ⟨b,o,h1,h2,h3⟩
  ·exact .inl k
  ·exact .inr ⟨b,o,h1,h _ h2,h3⟩
 stab h k:=by
  rcases k with k | ⟨b,o,h1,h2,h3⟩
  ·exact .inl k
  ·exact .inr ⟨b,o,h1,h2,h3.frame (h _ h2)⟩
theorem Qq8 {w:World} {S:Nat→Prop} : ∀ (zs:List Int) (vs:List Value) (f:List Nat),Qdt w S 1 (zs.map fun n=>[.lit (.int .u8 n)]) vs f→vs=zs.map (Value.int .u8)
 | [],vs,f,h=>by simp only [List.map_nil,Qdt] at h;exact h.1
 | z :: zs,vs,f,h=>by
  simp only [List.map_cons,Qdt] at h
  obtain ⟨u,us',f1,f2,rfl,rfl,hl,hc,k1,k2⟩:=h
  have e1:=Qq8 zs us' f2 k2
  simp only [Qfm] at k1
  obtain ⟨u1,us1,g1,g2,rfl,rfl,j1,j2,_⟩:=k1
  subst j2
  simp only [rep] at j1
  have:=j1.2.eq (by rfl)
  subst this
  simp [e1]
theorem Xcw {P:Program} {Θ:Tys} (hΘ:TOK P Θ) {f:FuncId} {fn:Func} {c:Code} (hf:P.funcs[f]? = some fn) (hname:(fn.name == "runtime.NumGoroutine")=false) (hb:fn.body=some c) {args:List AV} {res:AV} {l:List Int} (hn:args.length+1≤fn.ntmps)
  (h : ∀ (A:Option Addr) (cap:Nat) (E:Env),E.pk=⟨P,kv A l⟩→E.n=fn.ntmps→(∀ p,p∈E.fx→p.1∈([] : List Nat))→WAt E c (FQ (Qdu Θ fn.results.toList [] [] res E)) [] (Qw5 (.lit (.slice A l.length cap) :: args))) : Qab P f (.ro 1 (l.map fun n=>[.lit (.int .u8 n)]) :: args) res:=by
 refine ⟨enters_of hf hname hb,fun w S vals hv hS=>?_⟩
 simp only [Qfm] at hv
 obtain ⟨u,us,f1,f2,rfl,hff,h1,h2⟩:=hv
 have hff:=(List.append_eq_nil_iff.1 hff.symm)
 obtain ⟨rfl,rfl⟩:=hff
 simp only [rep] at h1
 obtain ⟨_,A,cap,rfl,hcap,hA⟩:=h1
 rw [List.length_map] at hcap ⊢
 refine Qte hΘ hf hb (by simpa using hn) (K:=kv A l) (args:=.lit (.slice A l.length cap) :: args) ?_ hS ?_ (h A cap)
 ·simp only [Qfm]
  exact ⟨_,us,[],[],rfl,rfl,by simp [rep],h2⟩
 ·rcases hA with hA | ⟨b,o,vs,rfl,hb,hat,hr⟩
  ·exact .inl (List.map_eq_nil_iff.1 hA)
  ·rw [Qq8 l vs [] hr] at hat
   exact .inr ⟨b,o,rfl,⟨hS b hb,fun h=>h⟩,hat⟩
def Qo3 (args:List AV) (rs:List Qae) : St:=⟨(args.zipIdx).map (fun p=>(p.2,p.1)),rs.zipIdx.map (fun p=>(p.2,some p.1)),(List.range rs.length)++[JJ]⟩
theorem Ql8 : ∀ (rs:List Qae) (k i:Nat),((rs.zipIdx k).map (fun p=>(p.2,some p.1))).lookup (k+i)=(rs[i]?).map some
 | [],k,i=>by simp
 | R :: rs,k,i=>by
  rw [List.zipIdx_cons,List.map_cons]
  cases i with
  | zero=>simp
  | succ i =>
   rw [Qaf (by simp),show k+(i+1)=(k+1)+i by omega,Ql8 rs (k+1) i]
   rfl
theorem Qn9 (args:List AV) (rs:List Qae) (i:Nat) : (Qo3 args rs).root i=rs[i]?:=by
 have:=Ql8 rs 0 i
 rw [Nat.zero_add] at this
 simp only [St.root,Qo3,this]
 cases rs[i]? <;> rfl
theorem Xaz (args:List AV) (rs:List Qae) (t:Nat) : (Qo3 args rs).get t=(args[t]?).getD .dead:=by
 have:=Qkc args 0 t
 rw [Nat.zero_add] at this
 simp only [St.get,Qo3,this]
open Classical in
theorem Qfc {X:PK} {Θ:Tys} (hΘ:TOK X.p Θ) {f:FuncId} {fn:Func} {c:Code} (hf:X.p.funcs[f]? = some fn) (hname:(fn.name == "runtime.NumGoroutine")=false) (hb:fn.body=some c) {rs rs':List Qae} {ks:List Bool} {args:List AV} {res:AV} (hn:args.length≤fn.ntmps) (hkl:ks.length=rs.length) (hrl:rs.length<JJ) (hne:ks.isEmpty=false) {fr:List Nat} (hfr : ∀ i,i<rs.length→ks[i]? = some true→i∈fr)
    (h : ∀ E:Env,E.pk=X→E.n=fn.ntmps→(∀ p,p∈E.fx→p.1∈fr)→WAt E c (FQ (Qdu Θ fn.results.toList ks rs' res E)) [] (Qo3 args rs)) : Qaw X f rs args ks rs' res:=by
  refine ⟨enters_of hf hname hb,?_⟩
  intro w S hd fp vals hrow hnil hdj hsep hS hargs hK
  have hvl:=Qb4 _ _ _ hargs
  refine calls_of_wp hf hb ?_
  have hpos : ∀ i b,b∈fp i→i<rs.length:=by
    intro i b hb
    apply Classical.byContradiction
    intro hne
    rw [hnil i (by rw [List.getElem?_eq_none_iff];omega)] at hb;cases hb
  have hlt : ∀ i b,b∈fp i→b<w.heap.size:=by
    intro i b hb
    have hi:=hpos i b hb
    obtain ⟨_,⟨vs,fp0,ho,hr,he⟩,_⟩:=hrow i (rs[i]) (by simp [hi])
    rw [he] at hb
    rcases List.mem_append.1 hb with hb | hb
    · exact Qma ho b hb
    · exact Qvc _ _ _ _ hr b hb
  let fx:List (Nat×Value):=((List.range rs.length).filter fun i=>ks[i]? == some true).map fun i=>(i,hd i)
  let E:Env:=⟨X.p,w,fn.ntmps,fun b => ∃ i,b∈fp i,fun b=>b<w.heap.size∧¬ S b∧¬ ∃ i,b∈fp i,fx,X.K,X.K.mono (fun b hb=>⟨hb.1,fun ⟨i,hi⟩=>hb.2 i hi⟩) hK⟩
  have hfxm : ∀ p,p∈fx→p.1<rs.length∧ks[p.1]? = some true∧p.2=hd p.1:=by
    intro p hp
    simp only [fx,List.mem_map,List.mem_filter,List.mem_range] at hp
    obtain ⟨i,⟨h1,h2⟩,rfl⟩:=hp
    exact ⟨h1,by simpa using h2,rfl⟩
  let χ:Nat→Option Nat:=fun b=>if hb : ∃ i,b∈fp i then some (Classical.choose hb) else if b<w.heap.size∧¬ S b then some JJ else none
  have hχ : ∀ i b,b∈fp i→χ b=some i:=by
    intro i b hb
    have hex : ∃ i,b∈fp i:=⟨i,hb⟩
    simp only [χ]
    rw [dif_pos hex,hdj _ _ b (Classical.choose_spec hex) hb]
  have hfree : ∀ b,S b→Qbg χ w b:=fun b hb=>⟨by
    simp only [χ]
    rw [dif_neg (fun ⟨i,hi⟩=>hsep i b hi hb),if_neg (fun h=>h.2 hb)],hS b hb⟩
  let s0:=Qo3 args rs
  have htab:tab s0 hd=hdT rs hd:=by
    funext i
    simp only [tab,s0,Qn9,hdT]
  have hus : ∀ i,i<rs.length→i∈s0.us:=fun i hi=>by simp [s0,Qo3,hi]
  have hrel:Qci E s0 { tmps:=vals.toArray++Array.replicate (fn.ntmps - vals.toArray.size) undef,defers:=[] } w χ hd:=by
    refine ⟨rfl,by simp [E];omega,rfl,Tp.refl _,rfl,Nat.le_refl _,fun _ _ _=>rfl,fun p hp=>⟨hus _ (hfxm p hp).1,(hfxm p hp).2.2.symm⟩,by simp [s0,Qo3],?_,?_,?_,?_,?_⟩
    · rw [Qn9,List.getElem?_eq_none_iff];omega
    · intro b hb
      simp only [χ]
      rw [dif_neg hb.2.2,if_pos ⟨hb.1,hb.2.1⟩]
    · intro b r hbr
      simp only [χ] at hbr
      split at hbr
      · rename_i hh
        cases hbr
        exact ⟨fun _=>.inr hh,hlt _ b (Classical.choose_spec hh)⟩
      · split at hbr
        · rename_i hh;cases hbr;exact ⟨fun e=>absurd rfl e,hh.1⟩
        · cases hbr
    · intro i R hR
      rw [Qn9] at hR
      obtain ⟨hz,⟨vs,fp0,ho,hr,he⟩,hnd⟩:=hrow i R hR
      refine ⟨hus i (List.getElem?_eq_some_iff.1 hR).1,fp i,⟨hz,vs,fp0,ho,Qi1 _ _ _ (Qex _ _ _ _ hr (fun b hb=>hb.elim) (fun b hb=>hb.elim) (fun _ _=>rfl)),he⟩,hnd,fun b hb=>hχ i b hb⟩
    · intro t
      rw [Xaz]
      cases ht:args[t]? with
      | none=>exact Qdk _
      | some x =>
        obtain ⟨v,hvt,hr⟩:=Qob _ _ _ _ hargs ht
        have:(vals.toArray++Array.replicate (fn.ntmps - vals.toArray.size) undef).getD t undef=v:=by
          have hlt:t<vals.length:=(List.getElem?_eq_some_iff.1 hvt).1
          rw [Array.getD_eq_getD_getElem?,Array.getElem?_append_left (by simpa using hlt)]
          simp [hvt]
        simp only [Option.getD_some]
        rw [this]
        exact Qcd _ _ _ hr hfree (fun _ _=>rfl) (by simp) (fun i hi=>hus i hi) (fun i _ y hy=>by rw [htab] at hy;exact hy)
  refine wp_mono (Qzc (h E rfl rfl (fun p hp=>hfr _ (hfxm p hp).1 (hfxm p hp).2.1)) _ w ⟨χ,_,hrel⟩) ?_
  rintro e a' w' ⟨s1,⟨he,s',hent,xs,hxs,hkept,hpk⟩,hr0⟩
  obtain ⟨χ',hd',hr⟩:=hent a' w' hr0
  obtain ⟨v,hv1,hv2⟩:=Qro (E:=E) hΘ hr hxs
  have hhd : ∀ i,i<rs.length→ks[i]? = some true→hd' i=hd i:=by
    intro i hi hk
    exact (hr.fx (i,hd i) (by
      simp only [E,fx,List.mem_map,List.mem_filter,List.mem_range]
      exact ⟨i,⟨hi,by simp [hk]⟩,rfl⟩)).2
  have hkpos : ∀ i,ks[i]? = some true→i<rs.length:=fun i hk=>by have:=(List.getElem?_eq_some_iff.1 hk).1;omega
  obtain ⟨g,hg1,hg2,hg3⟩:=hpk a' w' χ' hd' (tab s' hd') hr (fun i _=>rfl) v hv2
  have hcolE : ∀ b i,χ' b=some i→i≠JJ→((∃ j,b∈fp j)∨w.heap.size≤b)∧b<w'.heap.size:=by
    intro b i hb hi
    have:=hr.col b i hb
    refine ⟨?_,this.2⟩
    rcases this.1 hi with h1 | h1
    · exact .inr h1
    · exact .inl h1
  let fp':Nat→List Nat:=fun i=>if hk:ks[i]? = some true∧∃ R,rs'[i]? = some R∧s'.root i=some R then Classical.choose (hr.rts i (Classical.choose hk.2) (Classical.choose_spec hk.2).2).2 else []
  have hfp' : ∀ i R,rs'[i]? = some R→ks[i]? = some true→Qjt w' (Qbg χ' w') (· ∈ s'.us) (tab s' hd') R (hd' i) (fp' i)∧(fp' i).Nodup∧∀ b∈fp' i,χ' b=some i:=by
    intro i R hR hk
    have hk2:ks[i]? = some true∧∃ R,rs'[i]? = some R∧s'.root i=some R:=⟨hk,R,hR,(hkept i R hR hk).1⟩
    have e:fp' i=Classical.choose (hr.rts i (Classical.choose hk2.2) (Classical.choose_spec hk2.2).2).2:=by simp only [fp'];rw [dif_pos hk2]
    have:=Classical.choose_spec (hr.rts i (Classical.choose hk2.2) (Classical.choose_spec hk2.2).2).2
    have eR:Classical.choose hk2.2=R:=by
      exact Option.some.inj ((Classical.choose_spec hk2.2).1.symm.trans hR)
    rw [← e] at this
    rw [eR] at this
    exact this
  have hfpm : ∀ i b,b∈fp' i→ks[i]? = some true∧χ' b=some i:=by
    intro i b hb
    by_cases hk2:ks[i]? = some true∧∃ R,rs'[i]? = some R∧s'.root i=some R
    · obtain ⟨hk,R,hR,_⟩:=hk2
      exact ⟨hk,(hfp' i R hR hk).2.2 b hb⟩
    · simp only [fp'] at hb
      rw [dif_neg hk2] at hb;cases hb
  have hR : ∃ (v2:Value) (fp2:Nat→List Nat) (g:List Nat),Ending.returned v = .returned v2∧w'.os=w.os∧Tp w w'∧w'.output=w.output∧w.heap.size≤w'.heap.size ∧
      (∀ k,k<w.heap.size→(∀ i,k ∉ fp i)→w'.heap[k]? = w.heap[k]?) ∧
      (∀ (i:Nat) (R':Qae),rs'[i]? = some R'→ks[i]? = some true→Row w' R'.T R'.sz (hd i) R'.xs (fp2 i)∧(fp2 i).Nodup) ∧
      (∀ i:Nat,ks[i]? ≠ some true→fp2 i=[])∧(∀ i b,b∈fp2 i→(∃ j,b∈fp j)∨w.heap.size≤b) ∧
      repR w' NS (fun i=>ks[i]? = some true) (hdT rs' hd) res v2 g∧g.Nodup∧(∀ b∈g,((∃ j,b∈fp j)∨w.heap.size≤b)∧b<w'.heap.size) ∧
      (∀ i j b,b∈fp2 i→b∈fp2 j→i=j)∧(∀ i b,b∈fp2 i→b ∉ g∧b<w'.heap.size):=by
    refine ⟨v,fp',g,rfl,hr.os,hr.tape,hr.output,hr.hsz,fun k hk1 hk2=>hr.frame k hk1 (fun ⟨i,hi⟩=>hk2 i hi),?_,?_,?_,?_,hg2,?_,?_,?_⟩
    · intro i R' hR' hk
      obtain ⟨⟨_,vs,fp0,ho,hrr,he⟩,h2,_⟩:=hfp' i R' hR' hk
      obtain ⟨_,t1,t2⟩:=hkept i R' hR' hk
      rw [hhd i (hkpos i hk) hk] at ho he
      exact ⟨⟨vs,fp0,ho,Qm6 _ _ _ _ (Qey _ _ _ hrr t1) t2,he⟩,h2⟩
    · intro i hk
      simp only [fp']
      rw [dif_neg (fun h=>hk h.1)]
    · intro i b hb
      obtain ⟨hk,hc⟩:=hfpm i b hb
      exact (hcolE b i hc (fun e=>by have:=hkpos i hk;omega)).1
    · refine Qcd _ _ _ hg1 (fun b hb=>by have:=hb.1;rw [hne] at this;cases this) (fun _ _=>rfl) (fun _ _=>rfl) (fun i hi=>hi) (fun i hi y hy=>?_)
      have hi2:=hkpos i hi
      simp only [hdT,Option.map_eq_some_iff] at hy
      obtain ⟨R,hR,rfl⟩:=hy
      simp only [tab,(hkept i R hR hi).1,Option.map_some,hhd i hi2 hi]
    · intro b hb
      obtain ⟨i,hi,hij,_⟩:=hg3 b hb
      exact hcolE b i hi hij
    · intro i j b hi hj
      have h1:=(hfpm i b hi).2
      rw [(hfpm j b hj).2] at h1
      cases h1;rfl
    · intro i b hb
      obtain ⟨hk,hc⟩:=hfpm i b hb
      refine ⟨fun hg=>?_,(hcolE b i hc (fun e=>by have:=hkpos i hk;omega)).2⟩
      obtain ⟨j,hj,_,hnk⟩:=hg3 b hg
      rw [hc] at hj;cases hj
      exact hnk hk
  rcases he with rfl | rfl
  · exact ⟨hr.defers,v,hv1,hR⟩
  · exact ⟨hr.defers,v,hv1,hR⟩
theorem Qxz {P:Program} {Θ:Tys} (hΘ:TOK P Θ) {f:FuncId} {fn:Func} {c:Code} (hf:P.funcs[f]? = some fn) (hname:(fn.name == "runtime.NumGoroutine")=false) (hb:fn.body=some c) {rs rs':List Qae} {ks:List Bool} {args:List AV} {res:AV} (hn:args.length≤fn.ntmps) (hkl:ks.length=rs.length) (hrl:rs.length<JJ) (hne:ks.isEmpty=false) {fr:List Nat} (hfr : ∀ i,i<rs.length→ks[i]? = some true→i∈fr)
  (h : ∀ E:Env,E.pk=pk0 P→E.n=fn.ntmps→(∀ p,p∈E.fx→p.1∈fr)→WAt E c (FQ (Qdu Θ fn.results.toList ks rs' res E)) [] (Qo3 args rs)) : Qxl P f rs args ks rs' res:=
 let k:=Qfc (X:=pk0 P) hΘ hf hname hb hn hkl hrl hne hfr h
 ⟨k.1,fun w S hd fp vals h1 h2 h3 h4 h5 h6=>k.2 w S hd fp vals h1 h2 h3 h4 h5 h6 trivial⟩
end Go.T
