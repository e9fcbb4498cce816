/- Lemmas for FnLayers; no condition. -/

import Derived.Below
import Derived.Deep.Draws
import Derived.Laws.OwnMore
import Derived.Tactics
import Derived.Maps.AppendAt
import Derived.Laws.Cells
import Derived.Laws.Slices
set_option linter.unusedVariables false
namespace Go.T
open Go
theorem Qs2 {α:Type} : ∀ (x:Ask α) (w:World),w.drawn≤(w.ask x).2.drawn
 | .done a,w=>by simp [World.ask]
 | .ask what range k,w=>by
  simp only [World.ask]
  split
  ·exact Qs2 _ w
  ·exact Nat.le_trans (Nat.le_succ _) (Qs2 _ { w with drawn:=w.drawn+1 })
theorem Xcf (w:World) (c:Sys) : w.drawn≤(w.sys c).2.drawn:=by
 have:=Qs2 (Kernel.perform c w.os) w
 unfold World.sys
 split
 ·exact Nat.le_refl _
 ·rename_i r os w' _ h
  rw [h] at this
  exact this
theorem Qrm {p:Program} {w:World} {at_:Addr} {u:TypeId} {k:Addr} {v:Value} {b:Bool} {r:World×List Addr} (h:w.viewStore p at_ u k v b = .ok r) : r.1.drawn=w.drawn:=by
 unfold World.viewStore at h
 simp only [bind,Except.bind,pure,Except.pure] at h
 repeat' (split at h)
 all_goals first | (cases h;done) | (cases h;rfl)
theorem Qso {p:Program} {w:World} {a:Addr} {v:Value} {b:Bool} {r:World×List Addr} (h:w.farStore p a v b = .ok r) : r.1.drawn=w.drawn:=by
 unfold World.farStore at h
 split at h
 ·split at h
  ·cases h;exact Qrm (by assumption)
  ·cases h
 ·cases h
theorem Qd6 {α:Type} {P:Program} : ∀ (s:Sem α) {w w':World} {v : α},s.run P w = .ok v w'→w.drawn≤w'.drawn
  | .pure a,w,w',v,h=>by simp only [Sem.run] at h;cases h;exact Nat.le_refl _
  | .load m a k,w,w',v,h=>by
    simp only [Sem.run] at h
    split at h
    · exact Qd6 _ h
    · split at h
      · exact Qd6 _ h
      · cases h
  | .store m a x k,w,w',v,h=>by
    cases x
    all_goals
      simp only [Sem.run] at h
      first
      | (cases h;done)
      | (split at h
         · split at h
           · cases h
           · have:=Qd6 k h
             refine Nat.le_trans (Nat.le_of_eq ?_) this
             unfold World.setCell;repeat' split
             all_goals rfl
         · split at h
           · rename_i hf
             have:=Qd6 k h
             rw [← Qso hf];exact this
           · cases h)
  | .new o k,w,w',v,h=>by simp only [Sem.run] at h;have:=Qd6 (k _) h;exact this
  | .shape r k,w,w',v,h=>by simp only [Sem.run] at h;exact Qd6 _ h
  | .freeze a n k,w,w',v,h=>by
    simp only [Sem.run] at h
    refine Nat.le_trans (Nat.le_of_eq ?_) (Qd6 k h)
    unfold World.freeze;repeat' split
    all_goals rfl
  | .frozen a k,w,w',v,h=>by simp only [Sem.run] at h;exact Qd6 _ h
  | .getObj r k,w,w',v,h=>by
    simp only [Sem.run] at h
    split at h
    · cases h
    · exact Qd6 _ h
    · cases h
  | .setObj r o k,w,w',v,h=>by
    simp only [Sem.run] at h
    split at h
    · cases h
    · have:=Qd6 k h
      exact this
    · cases h
  | .choose q k,w,w',v,h=>by
    simp only [Sem.run] at h
    split at h
    · exact Qd6 _ h
    · exact Nat.le_trans (Nat.le_succ _) (Qd6 (k _) h)
  | .sys c k,w,w',v,h=>by
    simp only [Sem.run] at h
    exact Nat.le_trans (Xcf w c) (Qd6 _ h)
  | .program k,w,w',v,h=>by simp only [Sem.run] at h;exact Qd6 _ h
  | .mark m k,w,w',v,h=>by simp only [Sem.run] at h;exact Qd6 k h
  | .halt x,w,w',v,h=>by simp only [Sem.run] at h;cases h
end Go.T
set_option linter.unusedVariables false
namespace Go.T
open Go Go.RowKit
inductive AV where
 | dead
 | lit (v:Value)
 | ro (sz:Nat) (xs:List (List AV))
 | own (T sz:Nat) (xs:List (List AV))
 | agg (cs:List AV)
 | tup (cs:List AV)
 | sl (id off len:Nat)
 | ptr (id e o:Nat)
 | rop (cs:List AV) (o:Nat)
 | fn (g:FuncId) (caps:List AV)
 deriving Inhabited
def Qme (n:Nat) : Bool:=(FloatKind.f64.format.order n n).isNone
def VEq (u v:Value) : Prop:=match v with
 | .float .f64 n=>u = .float .f64 n∨∃ m,u = .float .f64 m∧Qme m=true∧Qme n=true
 | v=>u=v
@[simp] theorem VEq.refl (v:Value) : VEq v v:=by
 unfold VEq
 split
 ·exact .inl rfl
 ·rfl
def nf:Value→Bool
 | .float .f64 n=>n == 0 || !Qme n
 | _=>true
theorem Xdn:Qme 0=false:=by decide +kernel
theorem VEq.eq {u v:Value} (h:VEq u v) (hv:nf v=true:=by rfl) : u=v:=by
 unfold VEq at h
 split at h
 ·rcases h with h | ⟨m,_,_,h⟩
  ·exact h
  ·simp only [nf,h,Bool.not_true,Bool.or_false,beq_iff_eq] at hv
   rw [hv,Xdn] at h;cases h
 ·exact h
theorem VEq.flt {u:Value} {n:Nat} (h:VEq u (.float .f64 n)) : ∃ m,u = .float .f64 m∧(m=n∨Qme m=true∧Qme n=true):=by
 rcases h with h | ⟨m,h,h1,h2⟩
 ·exact ⟨n,h,.inl rfl⟩
 ·exact ⟨m,h,.inr ⟨h1,h2⟩⟩
theorem VEq.one {u v:Value} (h:VEq u v) (hv:v.oneCell'=true) : u.oneCell'=true:=by
 unfold VEq at h
 split at h
 ·rcases h with h | ⟨m,h,_⟩ <;> (rw [h];rfl)
 ·rw [h];exact hv
def At (w:World) (b o:Nat) (vs:List Value) : Prop:=∀ k v,vs[k]? = some v→w.cell? ⟨b,o+k,none⟩=some v
mutual
def rep (w:World) (S:Nat→Prop) : AV→Value→List Nat→Prop
 | .dead,_,fp=>fp=[]
 | .lit v,u,fp=>fp=[]∧VEq u v
 | .ro sz xs,u,fp=>fp=[]∧∃ A cap,u = .slice A xs.length cap∧xs.length≤cap∧(xs=[]∨∃ b o vs,A=some ⟨b,o,none⟩∧S b∧At w b o vs∧Qdt w S sz xs vs [])
 | .own T sz xs,u,fp => ∃ vs fp',w.ownsRow 0 T sz u xs.length vs∧Qdt w S sz xs vs fp'∧fp=u.ownBlock.toList++fp'
 | .agg cs,u,fp => ∃ vs,u = .agg vs.toArray∧Qfm w S cs vs fp
 | .tup cs,u,fp => ∃ vs,u = .tuple vs.toArray∧Qfm w S cs vs fp
 | .rop cs o,u,fp=>fp=[]∧∃ b o0 vs,u = .pointer (some ⟨b,o0+o,none⟩)∧S b∧At w b o0 vs∧Qfm w S cs vs []
 | .fn g caps,u,fp => ∃ vs,u = .func (.func g) #[] vs.toArray∧Qfm w S caps vs fp
 | .sl _ _ _,_,_=>False
 | .ptr _ _ _,_,_=>False
def Qfm (w:World) (S:Nat→Prop) : List AV→List Value→List Nat→Prop
 | [],vs,fp=>vs=[]∧fp=[]
 | c :: cs,vs,fp => ∃ u us f1 f2,vs=u :: us∧fp=f1++f2∧rep w S c u f1∧Qfm w S cs us f2
def Qdt (w:World) (S:Nat→Prop) (sz:Nat) : List (List AV)→List Value→List Nat→Prop
 | [],vs,fp=>vs=[]∧fp=[]
 | x :: xs,vs,fp => ∃ us us' f1 f2,vs=us++us'∧fp=f1++f2∧us.length=sz∧(∀ u∈us,u.oneCell'=true)∧Qfm w S x us f1∧Qdt w S sz xs us' f2
end
theorem Xe5 {w w2:World} {a:Addr} (h:w2.heap[a.block]? = w.heap[a.block]?) : w2.cell? a=w.cell? a:=World.cell?_of_block h
theorem At.frame {w w2:World} {b o:Nat} {vs:List Value} (h:At w b o vs) (hb:w2.heap[b]? = w.heap[b]?) : At w2 b o vs:=
 fun k v hk=>(Xe5 (a:=⟨b,o+k,none⟩) hb).trans (h k v hk)
theorem Qnp {w w2:World} {base e size n:Nat} {v:Value} {xs:List Value} (h:w.ownsRow base e size v n xs) (hb : ∀ b,v.ownBlock=some b→w2.heap[b]? = w.heap[b]?) : w2.ownsRow base e size v n xs:=by
 refine ⟨h.1,?_⟩
 rcases h.2 with hn | ⟨g,cap,cur,rfl,hb0,hgg,rest⟩
 ·exact .inl hn
 ·exact .inr ⟨g,cap,cur,rfl,hb0,by rw [hb g rfl];exact hgg,rest⟩
mutual
theorem Qbl {w w2:World} {S S2:Nat→Prop} : ∀ (a:AV) (u:Value) (fp:List Nat),rep w S a u fp→(∀ b,S b→S2 b)→(∀ b,S b→w2.heap[b]? = w.heap[b]?)→(∀ b∈fp,w2.heap[b]? = w.heap[b]?)→rep w2 S2 a u fp
 | .dead,_,_,h,_,_,_=>by simpa only [rep] using h
 | .lit _,_,_,h,_,_,_=>by simpa only [rep] using h
 | .ro sz xs,u,fp,h,hs,hS,hf=>by
  simp only [rep] at h ⊢
  obtain ⟨rfl,A,cap,hu,hl,h⟩:=h
  refine ⟨rfl,A,cap,hu,hl,?_⟩
  rcases h with h | ⟨b,o,vs,hA,hb,hat,hr⟩
  ·exact .inl h
  ·exact .inr ⟨b,o,vs,hA,hs b hb,hat.frame (hS b hb),Qex sz xs vs [] hr hs hS (by simp)⟩
 | .own T sz xs,u,fp,h,hs,hS,hf=>by
  simp only [rep] at h ⊢
  obtain ⟨vs,fp',ho,hr,rfl⟩:=h
  refine ⟨vs,fp',Qnp ho (fun b hb=>hf b (by simp [hb])),Qex sz xs vs fp' hr hs hS (fun b hb=>hf b (by simp [hb])),rfl⟩
 | .agg cs,u,fp,h,hs,hS,hf=>by
  simp only [rep] at h ⊢
  obtain ⟨vs,hu,hr⟩:=h
  exact ⟨vs,hu,Qhf cs vs fp hr hs hS hf⟩
 | .tup cs,u,fp,h,hs,hS,hf=>by
  simp only [rep] at h ⊢
  obtain ⟨vs,hu,hr⟩:=h
  exact ⟨vs,hu,Qhf cs vs fp hr hs hS hf⟩
 | .rop cs o,u,fp,h,hs,hS,hf=>by
  simp only [rep] at h ⊢
  obtain ⟨rfl,b,o0,vs,hu,hb,hat,hr⟩:=h
  exact ⟨rfl,b,o0,vs,hu,hs b hb,hat.frame (hS b hb),Qhf cs vs [] hr hs hS (by simp)⟩
 | .fn g caps,u,fp,h,hs,hS,hf=>by
  simp only [rep] at h ⊢
  obtain ⟨vs,hu,hr⟩:=h
  exact ⟨vs,hu,Qhf caps vs fp hr hs hS hf⟩
 | .sl _ _ _,_,_,h,_,_,_=>by simp only [rep] at h
 | .ptr _ _ _,_,_,h,_,_,_=>by simp only [rep] at h
theorem Qhf {w w2:World} {S S2:Nat→Prop} : ∀ (cs:List AV) (vs:List Value) (fp:List Nat),Qfm w S cs vs fp→(∀ b,S b→S2 b)→(∀ b,S b→w2.heap[b]? = w.heap[b]?)→(∀ b∈fp,w2.heap[b]? = w.heap[b]?)→Qfm w2 S2 cs vs fp
 | [],_,_,h,_,_,_=>by simpa only [Qfm] using h
 | c :: cs,vs,fp,h,hs,hS,hf=>by
  simp only [Qfm] at h ⊢
  obtain ⟨u,us,f1,f2,hv,rfl,h1,h2⟩:=h
  exact ⟨u,us,f1,f2,hv,rfl,Qbl c u f1 h1 hs hS (fun b hb=>hf b (by simp [hb])),Qhf cs us f2 h2 hs hS (fun b hb=>hf b (by simp [hb]))⟩
theorem Qex {w w2:World} {S S2:Nat→Prop} (sz:Nat) : ∀ (xs:List (List AV)) (vs:List Value) (fp:List Nat),Qdt w S sz xs vs fp→(∀ b,S b→S2 b)→(∀ b,S b→w2.heap[b]? = w.heap[b]?)→(∀ b∈fp,w2.heap[b]? = w.heap[b]?)→Qdt w2 S2 sz xs vs fp
 | [],_,_,h,_,_,_=>by simpa only [Qdt] using h
 | x :: xs,vs,fp,h,hs,hS,hf=>by
  simp only [Qdt] at h ⊢
  obtain ⟨us,us',f1,f2,hv,rfl,hl,h1c,h1,h2⟩:=h
  exact ⟨us,us',f1,f2,hv,rfl,hl,h1c,Qhf x us f1 h1 hs hS (fun b hb=>hf b (by simp [hb])),Qex sz xs us' f2 h2 hs hS (fun b hb=>hf b (by simp [hb]))⟩
end
theorem Qma {w:World} {e size n:Nat} {v:Value} {xs:List Value} (h:w.ownsRow 0 e size v n xs) : ∀ b∈v.ownBlock.toList,b<w.heap.size:=by
 intro b hb
 have:v.ownBlock=some b:=by simpa using hb
 exact (h.lt b this).2
mutual
theorem Qp0 {w:World} {S:Nat→Prop} : ∀ (a:AV) (u:Value) (fp:List Nat),rep w S a u fp→∀ b∈fp,b<w.heap.size
 | .dead,_,_,h=>by simp only [rep] at h;simp [h]
 | .lit _,_,_,h=>by simp only [rep] at h;simp [h.1]
 | .ro _ _,_,_,h=>by simp only [rep] at h;simp [h.1]
 | .own T sz xs,u,fp,h=>by
  simp only [rep] at h
  obtain ⟨vs,fp',ho,hr,rfl⟩:=h
  intro b hb
  rcases List.mem_append.1 hb with hb | hb
  ·exact Qma ho b hb
  ·exact Qvc sz xs vs fp' hr b hb
 | .agg cs,u,fp,h=>by simp only [rep] at h;obtain ⟨vs,_,hr⟩:=h;exact Qsg cs vs fp hr
 | .tup cs,u,fp,h=>by simp only [rep] at h;obtain ⟨vs,_,hr⟩:=h;exact Qsg cs vs fp hr
 | .rop _ _,_,_,h=>by simp only [rep] at h;simp [h.1]
 | .fn _ caps,u,fp,h=>by simp only [rep] at h;obtain ⟨vs,_,hr⟩:=h;exact Qsg caps vs fp hr
 | .sl _ _ _,_,_,h=>by simp only [rep] at h
 | .ptr _ _ _,_,_,h=>by simp only [rep] at h
theorem Qsg {w:World} {S:Nat→Prop} : ∀ (cs:List AV) (vs:List Value) (fp:List Nat),Qfm w S cs vs fp→∀ b∈fp,b<w.heap.size
 | [],_,_,h=>by simp only [Qfm] at h;simp [h.2]
 | c :: cs,vs,fp,h=>by
  simp only [Qfm] at h
  obtain ⟨u,us,f1,f2,_,rfl,h1,h2⟩:=h
  intro b hb
  rcases List.mem_append.1 hb with hb | hb
  ·exact Qp0 c u f1 h1 b hb
  ·exact Qsg cs us f2 h2 b hb
theorem Qvc {w:World} {S:Nat→Prop} (sz:Nat) : ∀ (xs:List (List AV)) (vs:List Value) (fp:List Nat),Qdt w S sz xs vs fp→∀ b∈fp,b<w.heap.size
 | [],_,_,h=>by simp only [Qdt] at h;simp [h.2]
 | x :: xs,vs,fp,h=>by
  simp only [Qdt] at h
  obtain ⟨us,us',f1,f2,_,rfl,_,_,h1,h2⟩:=h
  intro b hb
  rcases List.mem_append.1 hb with hb | hb
  ·exact Qsg x us f1 h1 b hb
  ·exact Qvc sz xs us' f2 h2 b hb
end
mutual
def frz:AV→AV
 | .own _ sz xs=>.ro sz (Qnk xs)
 | .agg cs=>.agg (Qnh cs)
 | .tup cs=>.tup (Qnh cs)
 | .fn g cs=>.fn g (Qnh cs)
 | a=>a
def Qnh:List AV→List AV
 | []=>[]
 | c :: cs=>frz c :: Qnh cs
def Qnk:List (List AV)→List (List AV)
 | []=>[]
 | x :: xs=>Qnh x :: Qnk xs
end
theorem Qfs : ∀ xs,(Qnk xs).length=xs.length
 | []=>rfl
 | x :: xs=>by simp [Qnk,Qfs xs]
theorem Qx0 {xs} (h:xs=[]) : Qnk xs=[]:=by subst h;rfl
theorem Qqu : ∀ cs:List AV,Qnh cs=cs.map frz
 | []=>rfl
 | c :: cs=>by simp [Qnh,Qqu cs]
theorem Qsj : ∀ xs:List (List AV),Qnk xs=xs.map (·.map frz)
 | []=>rfl
 | x :: xs=>by simp [Qnk,Qqu,Qsj xs]
theorem Qhe {w:World} {e size n b:Nat} {v:Value} {xs:List Value} (h:w.ownsRow 0 e size v n xs) (hb:v.ownBlock=some b) : At w b 0 xs:=by
 intro k u hk
 have:=h.cells hb k u hk
 have hadd:(⟨b,0,none⟩ : Addr).add k=⟨b,0+k,none⟩:=by unfold Addr.add;split <;> simp_all
 rwa [hadd] at this
mutual
theorem Xcv {w:World} {S S2:Nat→Prop} : ∀ (a:AV) (u:Value) (fp:List Nat),rep w S a u fp→(∀ b,S b→S2 b)→(∀ b∈fp,S2 b)→rep w S2 (frz a) u []
 | .dead,_,_,h,_,_=>by simp only [frz,rep]
 | .lit _,_,_,h,_,_=>by simp only [rep] at h;simp only [frz,rep];exact ⟨trivial,h.2⟩
 | .ro sz xs,u,fp,h,hs,hf=>by
  have h':=Qbl (w2:=w) (S2:=S2) (.ro sz xs) u fp h hs (fun _ _=>rfl) (fun _ _=>rfl)
  simp only [rep] at h
  obtain ⟨rfl,_⟩:=h
  simpa only [frz] using h'
 | .own T sz xs,u,fp,h,hs,hf=>by
  simp only [rep] at h
  obtain ⟨vs,fp',ho,hr,rfl⟩:=h
  have hrr:=Qnr sz xs vs fp' hr hs (fun b hb=>hf b (by simp [hb]))
  simp only [frz,rep]
  have hor:=ho
  rcases ho.2 with ⟨rfl,hn⟩ | ⟨g,cap,cur,rfl,_,hg,hnc,_⟩
  ·have:xs=[]:=List.eq_nil_of_length_eq_zero hn
   subst this
   exact ⟨trivial,none,0,rfl,Nat.le_refl _,.inl (rfl)⟩
  ·refine ⟨trivial,_,cap,by rw [Qfs],by rw [Qfs];exact hnc,.inr ⟨g,0,vs,rfl,hf g (by simp [Value.ownBlock]),Qhe hor rfl,hrr⟩⟩
 | .agg cs,u,fp,h,hs,hf=>by
  simp only [rep] at h
  obtain ⟨vs,hu,hr⟩:=h
  simp only [frz,rep]
  exact ⟨vs,hu,Qki cs vs fp hr hs hf⟩
 | .tup cs,u,fp,h,hs,hf=>by
  simp only [rep] at h
  obtain ⟨vs,hu,hr⟩:=h
  simp only [frz,rep]
  exact ⟨vs,hu,Qki cs vs fp hr hs hf⟩
 | .rop cs o,u,fp,h,hs,hf=>by
  have h':=Qbl (w2:=w) (S2:=S2) (.rop cs o) u fp h hs (fun _ _=>rfl) (fun _ _=>rfl)
  simp only [rep] at h
  obtain ⟨rfl,_⟩:=h
  simpa only [frz] using h'
 | .fn g caps,u,fp,h,hs,hf=>by
  simp only [rep] at h
  obtain ⟨vs,hu,hr⟩:=h
  simp only [frz,rep]
  exact ⟨vs,hu,Qki caps vs fp hr hs hf⟩
 | .sl _ _ _,_,_,h,_,_=>by simp only [rep] at h
 | .ptr _ _ _,_,_,h,_,_=>by simp only [rep] at h
theorem Qki {w:World} {S S2:Nat→Prop} : ∀ (cs:List AV) (vs:List Value) (fp:List Nat),Qfm w S cs vs fp→(∀ b,S b→S2 b)→(∀ b∈fp,S2 b)→Qfm w S2 (Qnh cs) vs []
 | [],_,_,h,_,_=>by simp only [Qfm] at h;simp only [Qnh,Qfm];exact ⟨h.1,trivial⟩
 | c :: cs,vs,fp,h,hs,hf=>by
  simp only [Qfm] at h
  obtain ⟨u,us,f1,f2,hv,rfl,h1,h2⟩:=h
  simp only [Qnh,Qfm]
  exact ⟨u,us,[],[],hv,rfl,Xcv c u f1 h1 hs (fun b hb=>hf b (by simp [hb])),Qki cs us f2 h2 hs (fun b hb=>hf b (by simp [hb]))⟩
theorem Qnr {w:World} {S S2:Nat→Prop} (sz:Nat) : ∀ (xs:List (List AV)) (vs:List Value) (fp:List Nat),Qdt w S sz xs vs fp→(∀ b,S b→S2 b)→(∀ b∈fp,S2 b)→Qdt w S2 sz (Qnk xs) vs []
 | [],_,_,h,_,_=>by simp only [Qdt] at h;simp only [Qnk,Qdt];exact ⟨h.1,trivial⟩
 | x :: xs,vs,fp,h,hs,hf=>by
  simp only [Qdt] at h
  obtain ⟨us,us',f1,f2,hv,rfl,hl,h1c,h1,h2⟩:=h
  simp only [Qnk,Qdt]
  exact ⟨us,us',[],[],hv,rfl,hl,h1c,Qki x us f1 h1 hs (fun b hb=>hf b (by simp [hb])),Qnr sz xs us' f2 h2 hs (fun b hb=>hf b (by simp [hb]))⟩
end
mutual
def Qez:AV→Bool
 | .ro _ xs=>xs.isEmpty
 | .own _ _ xs=>Qa4 xs
 | .agg cs=>Qcw cs
 | .tup cs=>Qcw cs
 | .fn _ cs=>Qcw cs
 | .rop _ _=>false
 | _=>true
def Qcw:List AV→Bool
 | []=>true
 | c :: cs=>Qez c && Qcw cs
def Qa4:List (List AV)→Bool
 | []=>true
 | x :: xs=>Qcw x && Qa4 xs
end
mutual
theorem Qqt {w:World} {S S2:Nat→Prop} : ∀ (a:AV) (u:Value) (fp:List Nat),rep w S a u fp→Qez a=true→rep w S2 a u fp
 | .dead,_,_,h,_=>by simpa only [rep] using h
 | .lit _,_,_,h,_=>by simpa only [rep] using h
 | .ro sz xs,u,fp,h,hn=>by
  have:xs=[]:=by simpa only [Qez,List.isEmpty_iff] using hn
  subst this
  simp only [rep] at h ⊢
  obtain ⟨rfl,A,cap,hu,hl,_⟩:=h
  exact ⟨rfl,A,cap,hu,hl,.inl trivial⟩
 | .own T sz xs,u,fp,h,hn=>by
  simp only [Qez] at hn
  simp only [rep] at h ⊢
  obtain ⟨vs,fp',ho,hr,hf⟩:=h
  exact ⟨vs,fp',ho,Qm6 sz xs vs fp' hr hn,hf⟩
 | .agg cs,u,fp,h,hn=>by
  simp only [Qez] at hn
  simp only [rep] at h ⊢
  obtain ⟨vs,hu,hr⟩:=h
  exact ⟨vs,hu,Ql6 cs vs fp hr hn⟩
 | .tup cs,u,fp,h,hn=>by
  simp only [Qez] at hn
  simp only [rep] at h ⊢
  obtain ⟨vs,hu,hr⟩:=h
  exact ⟨vs,hu,Ql6 cs vs fp hr hn⟩
 | .rop _ _,_,_,_,hn=>by simp only [Qez] at hn;exact absurd hn (by simp)
 | .fn g cs,u,fp,h,hn=>by
  simp only [Qez] at hn
  simp only [rep] at h ⊢
  obtain ⟨vs,hu,hr⟩:=h
  exact ⟨vs,hu,Ql6 cs vs fp hr hn⟩
 | .sl _ _ _,_,_,h,_=>by simp only [rep] at h
 | .ptr _ _ _,_,_,h,_=>by simp only [rep] at h
theorem Ql6 {w:World} {S S2:Nat→Prop} : ∀ (cs:List AV) (vs:List Value) (fp:List Nat),Qfm w S cs vs fp→Qcw cs=true→Qfm w S2 cs vs fp
 | [],_,_,h,_=>by simpa only [Qfm] using h
 | c :: cs,vs,fp,h,hn=>by
  simp only [Qcw,Bool.and_eq_true] at hn
  simp only [Qfm] at h ⊢
  obtain ⟨u,us,f1,f2,hv,hf,h1,h2⟩:=h
  exact ⟨u,us,f1,f2,hv,hf,Qqt c u f1 h1 hn.1,Ql6 cs us f2 h2 hn.2⟩
theorem Qm6 {w:World} {S S2:Nat→Prop} (sz:Nat) : ∀ (xs:List (List AV)) (vs:List Value) (fp:List Nat),Qdt w S sz xs vs fp→Qa4 xs=true→Qdt w S2 sz xs vs fp
 | [],_,_,h,_=>by simpa only [Qdt] using h
 | x :: xs,vs,fp,h,hn=>by
  simp only [Qa4,Bool.and_eq_true] at hn
  simp only [Qdt] at h ⊢
  obtain ⟨us,us',f1,f2,hv,hf,hl,h1c,h1,h2⟩:=h
  exact ⟨us,us',f1,f2,hv,hf,hl,h1c,Ql6 x us f1 h1 hn.1,Qm6 sz xs us' f2 h2 hn.2⟩
end
end Go.T
set_option linter.unusedVariables false
namespace Go.T
open Go Go.RowKit
def Xgd (h:Value) (sz off len:Nat) (u:Value) : Prop:=
 ∃ A cap,u = .slice A len cap∧len≤cap∧(off=0→∃ m,h = .slice A m cap)∧(0<len→∃ b m c,h = .slice (some ⟨b,0,none⟩) m c∧A=some ⟨b,off * sz,none⟩)
def sCap:Value→Nat
 | .slice _ _ c=>c
 | _=>0
abbrev Tab:=Nat→Option (Value×Nat×Nat)
mutual
def repR (w:World) (S:Nat→Prop) (U:Nat→Prop) (ρ:Tab) : AV→Value→List Nat→Prop
 | .sl id off len,u,fp=>fp=[]∧U id∧∀ h n sz,ρ id=some (h,n,sz)→off+len≤n∧Xgd h sz off len u∧n≤off+sCap u
 | .ptr id e o,u,fp=>fp=[]∧U id∧∀ h n sz,ρ id=some (h,n,sz)→e<n∧∃ b m c,h = .slice (some ⟨b,0,none⟩) m c∧u = .pointer (some ⟨b,e * sz+o,none⟩)
 | .agg cs,u,fp => ∃ vs,u = .agg vs.toArray∧Qah w S U ρ cs vs fp
 | .tup cs,u,fp => ∃ vs,u = .tuple vs.toArray∧Qah w S U ρ cs vs fp
 | .fn g caps,u,fp => ∃ vs,u = .func (.func g) #[] vs.toArray∧Qah w S U ρ caps vs fp
 | .dead,u,fp=>rep w S .dead u fp
 | .lit v,u,fp=>rep w S (.lit v) u fp
 | .ro sz xs,u,fp=>rep w S (.ro sz xs) u fp
 | .own T sz xs,u,fp=>rep w S (.own T sz xs) u fp
 | .rop cs o,u,fp=>rep w S (.rop cs o) u fp
def Qah (w:World) (S:Nat→Prop) (U:Nat→Prop) (ρ:Tab) : List AV→List Value→List Nat→Prop
 | [],vs,fp=>vs=[]∧fp=[]
 | c :: cs,vs,fp => ∃ u us f1 f2,vs=u :: us∧fp=f1++f2∧repR w S U ρ c u f1∧Qah w S U ρ cs us f2
end
def Qao (w:World) (S:Nat→Prop) (U:Nat→Prop) (ρ:Tab) (sz:Nat) : List (List AV)→List Value→List Nat→Prop
 | [],vs,fp=>vs=[]∧fp=[]
 | x :: xs,vs,fp => ∃ us us' f1 f2,vs=us++us'∧fp=f1++f2∧us.length=sz∧(∀ u∈us,u.oneCell'=true)∧Qah w S U ρ x us f1∧Qao w S U ρ sz xs us' f2
mutual
theorem Qcd {w w2:World} {S S2 U U2:Nat→Prop} {ρ ρ2:Tab} : ∀ (a:AV) (u:Value) (fp:List Nat),repR w S U ρ a u fp→(∀ b,S b→S2 b)→(∀ b,S b→w2.heap[b]? = w.heap[b]?)→(∀ b∈fp,w2.heap[b]? = w.heap[b]?) →
  (∀ i,U i→U2 i)→(∀ i,U i→∀ x,ρ2 i=some x→ρ i=some x)→repR w2 S2 U2 ρ2 a u fp
 | .sl id off len,u,fp,h,_,_,_,hU,hρ=>by
  simp only [repR] at h ⊢
  exact ⟨h.1,hU _ h.2.1,fun a b c hh=>h.2.2 a b c (hρ _ h.2.1 _ hh)⟩
 | .ptr id e o,u,fp,h,_,_,_,hU,hρ=>by
  simp only [repR] at h ⊢
  exact ⟨h.1,hU _ h.2.1,fun a b c hh=>h.2.2 a b c (hρ _ h.2.1 _ hh)⟩
 | .agg cs,u,fp,h,hs,hS,hf,hU,hρ=>by
  simp only [repR] at h ⊢
  obtain ⟨vs,hu,hr⟩:=h
  exact ⟨vs,hu,Qdx cs vs fp hr hs hS hf hU hρ⟩
 | .tup cs,u,fp,h,hs,hS,hf,hU,hρ=>by
  simp only [repR] at h ⊢
  obtain ⟨vs,hu,hr⟩:=h
  exact ⟨vs,hu,Qdx cs vs fp hr hs hS hf hU hρ⟩
 | .fn g cs,u,fp,h,hs,hS,hf,hU,hρ=>by
  simp only [repR] at h ⊢
  obtain ⟨vs,hu,hr⟩:=h
  exact ⟨vs,hu,Qdx cs vs fp hr hs hS hf hU hρ⟩
 | .dead,u,fp,h,hs,hS,hf,_,_=>by simp only [repR] at h ⊢; exact Qbl _ u fp h hs hS hf
 | .lit _,u,fp,h,hs,hS,hf,_,_=>by simp only [repR] at h ⊢; exact Qbl _ u fp h hs hS hf
 | .ro _ _,u,fp,h,hs,hS,hf,_,_=>by simp only [repR] at h ⊢; exact Qbl _ u fp h hs hS hf
 | .own _ _ _,u,fp,h,hs,hS,hf,_,_=>by simp only [repR] at h ⊢; exact Qbl _ u fp h hs hS hf
 | .rop _ _,u,fp,h,hs,hS,hf,_,_=>by simp only [repR] at h ⊢; exact Qbl _ u fp h hs hS hf
theorem Qdx {w w2:World} {S S2 U U2:Nat→Prop} {ρ ρ2:Tab} : ∀ (cs:List AV) (vs:List Value) (fp:List Nat),Qah w S U ρ cs vs fp→(∀ b,S b→S2 b)→(∀ b,S b→w2.heap[b]? = w.heap[b]?)→(∀ b∈fp,w2.heap[b]? = w.heap[b]?) →
  (∀ i,U i→U2 i)→(∀ i,U i→∀ x,ρ2 i=some x→ρ i=some x)→Qah w2 S2 U2 ρ2 cs vs fp
 | [],_,_,h,_,_,_,_,_=>by simpa only [Qah] using h
 | c :: cs,vs,fp,h,hs,hS,hf,hU,hρ=>by
  simp only [Qah] at h ⊢
  obtain ⟨u,us,f1,f2,hv,rfl,h1,h2⟩:=h
  exact ⟨u,us,f1,f2,hv,rfl,Qcd c u f1 h1 hs hS (fun b hb=>hf b (by simp [hb])) hU hρ,Qdx cs us f2 h2 hs hS (fun b hb=>hf b (by simp [hb])) hU hρ⟩
end
theorem Qdi {w w2:World} {S S2 U U2:Nat→Prop} {ρ ρ2:Tab} {sz:Nat} (hs : ∀ b,S b→S2 b) (hS : ∀ b,S b→w2.heap[b]? = w.heap[b]?)
  (hU : ∀ i,U i→U2 i) (hρ : ∀ i,U i→∀ x,ρ2 i=some x→ρ i=some x) : ∀ (xs:List (List AV)) (vs:List Value) (fp:List Nat),Qao w S U ρ sz xs vs fp→(∀ b∈fp,w2.heap[b]? = w.heap[b]?)→Qao w2 S2 U2 ρ2 sz xs vs fp
 | [],_,_,h,_=>by simpa only [Qao] using h
 | x :: xs,vs,fp,h,hf=>by
  simp only [Qao] at h ⊢
  obtain ⟨us,us',f1,f2,hv,rfl,hl,h1c,h1,h2⟩:=h
  exact ⟨us,us',f1,f2,hv,rfl,hl,h1c,Qdx x us f1 h1 hs hS (fun b hb=>hf b (by simp [hb])) hU hρ,Qdi hs hS hU hρ xs us' f2 h2 (fun b hb=>hf b (by simp [hb]))⟩
mutual
theorem Qr2 {w:World} {S U:Nat→Prop} {ρ:Tab} : ∀ (a:AV) (u:Value) (fp:List Nat),rep w S a u fp→repR w S U ρ a u fp
 | .sl _ _ _,_,_,h=>by simp only [rep] at h
 | .ptr _ _ _,_,_,h=>by simp only [rep] at h
 | .agg cs,u,fp,h=>by
  simp only [rep] at h;simp only [repR]
  obtain ⟨vs,hu,hr⟩:=h
  exact ⟨vs,hu,Qmc cs vs fp hr⟩
 | .tup cs,u,fp,h=>by
  simp only [rep] at h;simp only [repR]
  obtain ⟨vs,hu,hr⟩:=h
  exact ⟨vs,hu,Qmc cs vs fp hr⟩
 | .fn g cs,u,fp,h=>by
  simp only [rep] at h;simp only [repR]
  obtain ⟨vs,hu,hr⟩:=h
  exact ⟨vs,hu,Qmc cs vs fp hr⟩
 | .dead,u,fp,h=>by simpa only [repR] using h
 | .lit _,u,fp,h=>by simpa only [repR] using h
 | .ro _ _,u,fp,h=>by simpa only [repR] using h
 | .own _ _ _,u,fp,h=>by simpa only [repR] using h
 | .rop _ _,u,fp,h=>by simpa only [repR] using h
theorem Qmc {w:World} {S U:Nat→Prop} {ρ:Tab} : ∀ (cs:List AV) (vs:List Value) (fp:List Nat),Qfm w S cs vs fp→Qah w S U ρ cs vs fp
 | [],_,_,h=>by simpa only [Qfm,Qah] using h
 | c :: cs,vs,fp,h=>by
  simp only [Qfm] at h;simp only [Qah]
  obtain ⟨u,us,f1,f2,hv,hf,h1,h2⟩:=h
  exact ⟨u,us,f1,f2,hv,hf,Qr2 c u f1 h1,Qmc cs us f2 h2⟩
end
theorem Qi1 {w:World} {S U:Nat→Prop} {ρ:Tab} {sz:Nat} : ∀ (xs:List (List AV)) (vs:List Value) (fp:List Nat),Qdt w S sz xs vs fp→Qao w S U ρ sz xs vs fp
 | [],_,_,h=>by simpa only [Qdt,Qao] using h
 | x :: xs,vs,fp,h=>by
  simp only [Qdt] at h;simp only [Qao]
  obtain ⟨us,us',f1,f2,hv,hf,hl,h1c,h1,h2⟩:=h
  exact ⟨us,us',f1,f2,hv,hf,hl,h1c,Qmc x us f1 h1,Qi1 xs us' f2 h2⟩
mutual
theorem Xj4 {w:World} {S U:Nat→Prop} {ρ:Tab} : ∀ (a:AV) (u:Value) (fp:List Nat),repR w S U ρ a u fp→∀ b∈fp,b<w.heap.size
 | .sl _ _ _,_,_,h=>by simp only [repR] at h;simp [h.1]
 | .ptr _ _ _,_,_,h=>by simp only [repR] at h;simp [h.1]
 | .agg cs,u,fp,h=>by simp only [repR] at h;obtain ⟨vs,_,hr⟩:=h;exact Qo6 cs vs fp hr
 | .tup cs,u,fp,h=>by simp only [repR] at h;obtain ⟨vs,_,hr⟩:=h;exact Qo6 cs vs fp hr
 | .fn _ cs,u,fp,h=>by simp only [repR] at h;obtain ⟨vs,_,hr⟩:=h;exact Qo6 cs vs fp hr
 | .dead,u,fp,h=>by simp only [repR] at h;exact Qp0 _ _ _ h
 | .lit _,u,fp,h=>by simp only [repR] at h;exact Qp0 _ _ _ h
 | .ro _ _,u,fp,h=>by simp only [repR] at h;exact Qp0 _ _ _ h
 | .own _ _ _,u,fp,h=>by simp only [repR] at h;exact Qp0 _ _ _ h
 | .rop _ _,u,fp,h=>by simp only [repR] at h;exact Qp0 _ _ _ h
theorem Qo6 {w:World} {S U:Nat→Prop} {ρ:Tab} : ∀ (cs:List AV) (vs:List Value) (fp:List Nat),Qah w S U ρ cs vs fp→∀ b∈fp,b<w.heap.size
 | [],_,_,h=>by simp only [Qah] at h;simp [h.2]
 | c :: cs,vs,fp,h=>by
  simp only [Qah] at h
  obtain ⟨u,us,f1,f2,_,rfl,h1,h2⟩:=h
  intro b hb
  rcases List.mem_append.1 hb with hb | hb
  ·exact Xj4 c u f1 h1 b hb
  ·exact Qo6 cs us f2 h2 b hb
end
theorem Qwi {w:World} {S U:Nat→Prop} {ρ:Tab} {sz:Nat} : ∀ (xs:List (List AV)) (vs:List Value) (fp:List Nat),Qao w S U ρ sz xs vs fp→∀ b∈fp,b<w.heap.size
 | [],_,_,h=>by simp only [Qao] at h;simp [h.2]
 | x :: xs,vs,fp,h=>by
  simp only [Qao] at h
  obtain ⟨us,us',f1,f2,_,rfl,_,_,h1,h2⟩:=h
  intro b hb
  rcases List.mem_append.1 hb with hb | hb
  ·exact Qo6 x us f1 h1 b hb
  ·exact Qwi xs us' f2 h2 b hb
theorem Qb4 {w:World} {S U:Nat→Prop} {ρ:Tab} : ∀ (cs:List AV) (vs:List Value) (fp:List Nat),Qah w S U ρ cs vs fp→vs.length=cs.length
 | [],_,_,h=>by simp only [Qah] at h;simp [h.1]
 | c :: cs,vs,fp,h=>by
  simp only [Qah] at h
  obtain ⟨u,us,f1,f2,rfl,_,_,h2⟩:=h
  simp [Qb4 cs us f2 h2]
theorem Qlv {w:World} {S U:Nat→Prop} {ρ:Tab} : ∀ (cs ds:List AV) (vs us:List Value) (f g:List Nat),Qah w S U ρ cs vs f→Qah w S U ρ ds us g→Qah w S U ρ (cs++ds) (vs++us) (f++g)
 | [],ds,vs,us,f,g,h,h'=>by simp only [Qah] at h;obtain ⟨rfl,rfl⟩:=h;simpa using h'
 | c :: cs,ds,vs,us,f,g,h,h'=>by
  simp only [Qah] at h
  obtain ⟨u,us',f1,f2,rfl,rfl,h1,h2⟩:=h
  simp only [List.cons_append,Qah]
  exact ⟨u,us'++us,f1,f2++g,rfl,by simp,h1,Qlv cs ds us' us f2 g h2 h'⟩
theorem Qis {w:World} {S U:Nat→Prop} {ρ:Tab} : ∀ (cs ds:List AV) (vs:List Value) (f:List Nat),Qah w S U ρ (cs++ds) vs f→∃ v1 v2 f1 f2,vs=v1++v2∧f=f1++f2∧Qah w S U ρ cs v1 f1∧Qah w S U ρ ds v2 f2
 | [],ds,vs,f,h=>⟨[],vs,[],f,rfl,rfl,by simp [Qah],h⟩
 | c :: cs,ds,vs,f,h=>by
  simp only [List.cons_append,Qah] at h
  obtain ⟨u,us,f1,f2,rfl,rfl,h1,h2⟩:=h
  obtain ⟨v1,v2,g1,g2,rfl,rfl,k1,k2⟩:=Qis cs ds us f2 h2
  refine ⟨u :: v1,v2,f1++g1,g2,rfl,by simp,?_,k2⟩
  simp only [Qah]
  exact ⟨u,v1,f1,g1,rfl,rfl,h1,k1⟩
theorem Qkn {w:World} {S U:Nat→Prop} {ρ:Tab} {sz:Nat} : ∀ (xs ys:List (List AV)) (vs us:List Value) (f g:List Nat),Qao w S U ρ sz xs vs f→Qao w S U ρ sz ys us g→Qao w S U ρ sz (xs++ys) (vs++us) (f++g)
 | [],ds,vs,us,f,g,h,h'=>by simp only [Qao] at h;obtain ⟨rfl,rfl⟩:=h;simpa using h'
 | x :: xs,ys,vs,us,f,g,h,h'=>by
  simp only [Qao] at h
  obtain ⟨u1,u2,f1,f2,rfl,rfl,hl,h1c,h1,h2⟩:=h
  simp only [List.cons_append,Qao]
  exact ⟨u1,u2++us,f1,f2++g,by simp,by simp,hl,h1c,h1,Qkn xs ys u2 us f2 g h2 h'⟩
theorem Qe6 {w:World} {S U:Nat→Prop} {ρ:Tab} {sz:Nat} : ∀ (xs ys:List (List AV)) (vs:List Value) (f:List Nat),Qao w S U ρ sz (xs++ys) vs f→∃ v1 v2 f1 f2,vs=v1++v2∧f=f1++f2∧v1.length=xs.length * sz∧Qao w S U ρ sz xs v1 f1∧Qao w S U ρ sz ys v2 f2
 | [],ys,vs,f,h=>⟨[],vs,[],f,rfl,rfl,by simp,by simp [Qao],h⟩
 | x :: xs,ys,vs,f,h=>by
  simp only [List.cons_append,Qao] at h
  obtain ⟨u1,u2,f1,f2,rfl,rfl,hl,h1c,h1,h2⟩:=h
  obtain ⟨v1,v2,g1,g2,rfl,rfl,hl2,k1,k2⟩:=Qe6 xs ys u2 f2 h2
  refine ⟨u1++v1,v2,f1++g1,g2,by simp,by simp,by simp [hl,hl2,Nat.add_mul,Nat.add_comm],?_,k2⟩
  simp only [Qao]
  exact ⟨u1,v1,f1,g1,rfl,rfl,hl,h1c,h1,k1⟩
theorem Qmt {w:World} {S U:Nat→Prop} {ρ:Tab} {sz:Nat} : ∀ (xs:List (List AV)) (vs:List Value) (f:List Nat),Qao w S U ρ sz xs vs f→∀ u∈vs,u.oneCell'=true
 | [],vs,f,h=>by simp only [Qao] at h;simp [h.1]
 | x :: xs,vs,f,h=>by
  simp only [Qao] at h
  obtain ⟨u1,u2,f1,f2,rfl,rfl,hl,h1c,h1,h2⟩:=h
  intro u hu
  rcases List.mem_append.1 hu with hu | hu
  ·exact h1c u hu
  ·exact Qmt xs u2 f2 h2 u hu
theorem Qnv {w:World} {S U:Nat→Prop} {ρ:Tab} {sz:Nat} : ∀ (xs:List (List AV)) (vs:List Value) (f:List Nat),Qao w S U ρ sz xs vs f→vs.length=xs.length * sz
 | [],vs,f,h=>by simp only [Qao] at h;simp [h.1]
 | x :: xs,vs,f,h=>by
  simp only [Qao] at h
  obtain ⟨u1,u2,f1,f2,rfl,rfl,hl,_,_,h2⟩:=h
  simp [hl,Qnv xs u2 f2 h2,Nat.add_mul,Nat.add_comm]
theorem Qg8 {w:World} {S U:Nat→Prop} {ρ:Tab} {sz:Nat} {xs:List (List AV)} {vs:List Value} {f:List Nat} (h:Qao w S U ρ sz xs vs f) {e:Nat} {x:List AV} (he:xs[e]? = some x) :
  ∃ v1 us v2 f1 fe f2,vs=v1++us++v2∧f=f1++fe++f2∧v1.length=e * sz∧us.length=sz∧(∀ u∈us,u.oneCell'=true)∧Qao w S U ρ sz (xs.take e) v1 f1∧Qah w S U ρ x us fe∧Qao w S U ρ sz (xs.drop (e+1)) v2 f2:=by
 have hlt:e<xs.length:=(List.getElem?_eq_some_iff.1 he).1
 have hx:xs=xs.take e++(x :: xs.drop (e+1)):=by
  have:=List.getElem?_eq_some_iff.1 he
  rw [← this.2,List.getElem_cons_drop,List.take_append_drop]
 rw [hx] at h
 obtain ⟨v1,v2,f1,f2,rfl,rfl,hl,h1,h2⟩:=Qe6 _ _ _ _ h
 simp only [Qao] at h2
 obtain ⟨us,us',g1,g2,rfl,rfl,hl2,h1c,k1,k2⟩:=h2
 refine ⟨v1,us,us',f1,g1,g2,by simp,by simp,?_,hl2,h1c,h1,k1,k2⟩
 rw [hl,List.length_take,Nat.min_eq_left (Nat.le_of_lt hlt)]
theorem Qip {w:World} {S U:Nat→Prop} {ρ:Tab} {sz:Nat} {xs:List (List AV)} {v1 us v2:List Value} {f1 fe f2:List Nat} {e:Nat} {x:List AV} (he:e<xs.length)
  (h1:Qao w S U ρ sz (xs.take e) v1 f1) (hl:us.length=sz) (h1c : ∀ u∈us,u.oneCell'=true) (hx:Qah w S U ρ x us fe) (h2:Qao w S U ρ sz (xs.drop (e+1)) v2 f2) :
  Qao w S U ρ sz (xs.set e x) (v1++us++v2) (f1++fe++f2):=by
 have hs:xs.set e x=xs.take e++(x :: xs.drop (e+1)):=by rw [List.set_eq_take_append_cons_drop,if_pos he]
 rw [hs,List.append_assoc,List.append_assoc]
 refine Qkn _ _ _ _ _ _ h1 ?_
 simp only [Qao]
 exact ⟨us,v2,fe,f2,rfl,rfl,hl,h1c,hx,h2⟩
theorem Qox {w:World} {S U:Nat→Prop} {ρ:Tab} {x:List AV} {us:List Value} {f:List Nat} (h:Qah w S U ρ x us f) {o:Nat} {c:AV} (ho:x[o]? = some c) :
  ∃ v1 u v2 f1 fc f2,us=v1++u :: v2∧f=f1++fc++f2∧v1.length=o∧Qah w S U ρ (x.take o) v1 f1∧repR w S U ρ c u fc∧Qah w S U ρ (x.drop (o+1)) v2 f2:=by
 have hlt:o<x.length:=(List.getElem?_eq_some_iff.1 ho).1
 have hx:x=x.take o++(c :: x.drop (o+1)):=by
  have:=List.getElem?_eq_some_iff.1 ho
  rw [← this.2,List.getElem_cons_drop,List.take_append_drop]
 rw [hx] at h
 obtain ⟨v1,v2,f1,f2,rfl,rfl,h1,h2⟩:=Qis _ _ _ _ h
 simp only [Qah] at h2
 obtain ⟨u,us',g1,g2,rfl,rfl,k1,k2⟩:=h2
 refine ⟨v1,u,us',f1,g1,g2,rfl,by simp,?_,h1,k1,k2⟩
 rw [Qb4 _ _ _ h1,List.length_take,Nat.min_eq_left (Nat.le_of_lt hlt)]
theorem Qr4 {w:World} {S U:Nat→Prop} {ρ:Tab} {x:List AV} {v1 v2:List Value} {u:Value} {f1 fc f2:List Nat} {o:Nat} {c:AV} (ho:o<x.length)
  (h1:Qah w S U ρ (x.take o) v1 f1) (hc:repR w S U ρ c u fc) (h2:Qah w S U ρ (x.drop (o+1)) v2 f2) :
  Qah w S U ρ (x.set o c) (v1++u :: v2) (f1++fc++f2):=by
 have hs:x.set o c=x.take o++(c :: x.drop (o+1)):=by rw [List.set_eq_take_append_cons_drop,if_pos ho]
 rw [hs,List.append_assoc]
 refine Qlv _ _ _ _ _ _ h1 ?_
 simp only [Qah]
 exact ⟨u,v2,fc,f2,rfl,rfl,hc,h2⟩
end Go.T
set_option linter.unusedVariables false
namespace Go.T
open Go Go.RowKit
structure Qae where
 T:Nat
 sz:Nat
 xs:List (List AV)
 deriving Inhabited
structure St where
 sl:List (Nat×AV)
 rt:List (Nat×Option Qae)
 us:List Nat
def St.get (s:St) (t:Nat) : AV:=(s.sl.lookup t).getD .dead
def St.root (s:St) (i:Nat) : Option Qae:=(s.rt.lookup i).getD none
def St.put (s:St) (d:Nat) (v:AV) : St:={ s with sl:=(d,v) :: s.sl }
def St.add (s:St) (i:Nat) (R:Qae) : St:={ s with rt:=(i,some R) :: s.rt,us:=i :: s.us }
def St.setR (s:St) (i:Nat) (R:Qae) : St:={ s with rt:=(i,some R) :: s.rt }
def St.kill (s:St) (i:Nat) : St:={ s with rt:=(i,none) :: s.rt }
theorem Qan {β:Type} (i:Nat) (x : β) (l:List (Nat×β)) : ((i,x) :: l).lookup i=some x:=by simp [List.lookup]
theorem Qaf {β:Type} {i j:Nat} (h:j≠i) (x : β) (l:List (Nat×β)) : ((i,x) :: l).lookup j=l.lookup j:=by
 have:(j == i)=false:=by simpa using h
 simp [List.lookup,this]
theorem St.get_put_same (s:St) (d:Nat) (v:AV) : (s.put d v).get d=v:=by simp [St.get,St.put]
theorem St.get_put_ne (s:St) {d t:Nat} (h:t≠d) (v:AV) : (s.put d v).get t=s.get t:=by simp only [St.get,St.put,Qaf h]
theorem St.root_put (s:St) (d:Nat) (v:AV) (i:Nat) : (s.put d v).root i=s.root i:=rfl
theorem St.root_add_same (s:St) (i:Nat) (R:Qae) : (s.add i R).root i=some R:=by simp [St.root,St.add]
theorem St.root_add_ne (s:St) {i j:Nat} (h:j≠i) (R:Qae) : (s.add i R).root j=s.root j:=by simp only [St.root,St.add,Qaf h]
theorem St.root_setR_same (s:St) (i:Nat) (R:Qae) : (s.setR i R).root i=some R:=by simp [St.root,St.setR]
theorem St.root_setR_ne (s:St) {i j:Nat} (h:j≠i) (R:Qae) : (s.setR i R).root j=s.root j:=by simp only [St.root,St.setR,Qaf h]
theorem St.root_kill_same (s:St) (i:Nat) : (s.kill i).root i=none:=by simp [St.root,St.kill]
theorem St.root_kill_ne (s:St) {i j:Nat} (h:j≠i) : (s.kill i).root j=s.root j:=by simp only [St.root,St.kill,Qaf h]
def JJ:Nat:=1000000007
def Tp (w0 w:World) : Prop:=w.tape=w0.tape∧w0.drawn≤w.drawn
theorem Tp.refl (w:World) : Tp w w:=⟨rfl,Nat.le_refl _⟩
theorem Tp.trans {a b c:World} (h:Tp a b) (k:Tp b c) : Tp a c:=⟨k.1.trans h.1,Nat.le_trans h.2 k.2⟩
theorem Tp.drew {w:World}:Tp w w.drew:=⟨rfl,Nat.le_succ _⟩
structure KF where
 k:(Nat→Prop)→World→Prop
 mono : ∀ {B B':Nat→Prop} {w:World},(∀ b,B b→B' b)→k B w→k B' w
 stab : ∀ {B:Nat→Prop} {w w':World},(∀ b,B b→w'.heap[b]? = w.heap[b]?)→k B w→k B w'
def kf0:KF:=⟨fun _ _=>True,fun _ _=>trivial,fun _ _=>trivial⟩
structure PK where
 p:Program
 K:KF
abbrev pk0 (P:Program) : PK:=⟨P,kf0⟩
structure Env where
 P:Program
 w0:World
 n:Nat
 In:Nat→Prop
 Jk:Nat→Prop
 fx:List (Nat×Value)
 K:KF
 k0:K.k (fun b=>b<w0.heap.size∧¬ In b) w0
abbrev Env.pk (E:Env) : PK:=⟨E.P,E.K⟩
theorem pkP {E:Env} {X:PK} (h:E.pk=X) : E.P=X.p:=congrArg PK.p h
def tab (s:St) (hd:Nat→Value) : Tab:=fun i=>(s.root i).map fun R=>(hd i,R.xs.length,R.sz)
def Qbg (χ:Nat→Option Nat) (w:World) : Nat→Prop:=fun b=>χ b=none∧b<w.heap.size
def Qjt (w:World) (S U:Nat→Prop) (ρ:Tab) (R:Qae) (h:Value) (fp:List Nat) : Prop:=
 0<R.sz∧∃ vs fp',w.ownsRow 0 R.T R.sz h R.xs.length vs∧Qao w S U ρ R.sz R.xs vs fp'∧fp=h.ownBlock.toList++fp'
structure Qci (E:Env) (s:St) (a:Act) (w:World) (χ:Nat→Option Nat) (hd:Nat→Value) : Prop where
 defers:a.defers=[]
 size:a.tmps.size=E.n
 os:w.os=E.w0.os
 tape:Tp E.w0 w
 output:w.output=E.w0.output
 hsz:E.w0.heap.size≤w.heap.size
 frame : ∀ k,k<E.w0.heap.size→¬ E.In k→w.heap[k]? = E.w0.heap[k]?
 fx : ∀ p,p∈E.fx→p.1∈s.us∧hd p.1=p.2
 jj:JJ∈s.us
 rj:s.root JJ=none
 jk : ∀ b,E.Jk b→χ b=some JJ
 col : ∀ b r,χ b=some r→(r≠JJ→E.w0.heap.size≤b∨E.In b)∧b<w.heap.size
 rts : ∀ i R,s.root i=some R→i∈s.us∧∃ fp,Qjt w (Qbg χ w) (· ∈ s.us) (tab s hd) R (hd i) fp∧fp.Nodup∧∀ b∈fp,χ b=some i
 slots : ∀ t,repR w (Qbg χ w) (· ∈ s.us) (tab s hd) (s.get t) (a.tmps.getD t undef) []
theorem Qci.kk {E:Env} {s:St} {a:Act} {w:World} {χ:Nat→Option Nat} {hd:Nat→Value} (h:Qci E s a w χ hd) : E.K.k (fun b=>b<E.w0.heap.size∧¬ E.In b) w:=
 E.K.stab (fun b hb=>h.frame b hb.1 hb.2) E.k0
theorem Qxr {E:Env} {s:St} {hd:Nat→Value} {id:Nat} {R:Qae} {v0:Value} (h : ∀ p,p∈E.fx→p.1∈s.us∧hd p.1=p.2) (hid:id ∉ s.us) : ∀ p,p∈E.fx→p.1∈(s.add id R).us∧(fun j=>if j=id then v0 else hd j) p.1=p.2:=by
  intro p hv
  obtain ⟨h1,h2⟩:=h p hv
  exact ⟨List.mem_cons_of_mem _ h1,by
    have : ¬ (p.1=id):=by intro e;exact hid (e ▸ h1)
    simp only [this,if_false];exact h2⟩
def Rel (E:Env) (s:St) (a:Act) (w:World) : Prop:=∃ χ hd,Qci E s a w χ hd
theorem Qjt.mono {w w2:World} {S S2 U U2:Nat→Prop} {ρ ρ2:Tab} {R:Qae} {h:Value} {fp:List Nat} (k:Qjt w S U ρ R h fp) (hs : ∀ b,S b→S2 b) (hS : ∀ b,S b→w2.heap[b]? = w.heap[b]?) (hf : ∀ b∈fp,w2.heap[b]? = w.heap[b]?)
  (hU : ∀ i,U i→U2 i) (hρ : ∀ i,U i→∀ x,ρ2 i=some x→ρ i=some x) : Qjt w2 S2 U2 ρ2 R h fp:=by
 obtain ⟨hz,vs,fp',ho,hr,rfl⟩:=k
 exact ⟨hz,vs,fp',Qnp ho (fun b hb=>hf b (by simp [hb])),Qdi hs hS hU hρ _ _ _ hr (fun b hb=>hf b (by simp [hb])),rfl⟩
theorem Qjt.lt {w:World} {S U:Nat→Prop} {ρ:Tab} {R:Qae} {h:Value} {fp:List Nat} (k:Qjt w S U ρ R h fp) : ∀ b∈fp,b<w.heap.size:=by
 obtain ⟨hz,vs,fp',ho,hr,rfl⟩:=k
 intro b hb
 rcases List.mem_append.1 hb with hb | hb
 ·exact Qma ho b hb
 ·exact Qwi _ _ _ hr b hb
theorem Qci.world {E:Env} {s:St} {a:Act} {w w2:World} {χ:Nat→Option Nat} {hd:Nat→Value} (h:Qci E s a w χ hd) (hh:w2.heap=w.heap) (ho:w2.os=w.os) (ht:Tp w w2) (hu:w2.output=w.output) : Qci E s a w2 χ hd:=by
 have hS : ∀ b,Qbg χ w b→Qbg χ w2 b:=fun b hb=>⟨hb.1,by rw [hh];exact hb.2⟩
 have hb : ∀ b:Nat,w2.heap[b]? = w.heap[b]?:=fun b=>by rw [hh]
 refine ⟨h.defers,h.size,ho.trans h.os,h.tape.trans ht,hu.trans h.output,by rw [hh];exact h.hsz,fun k h1 h2=>(hb k).trans (h.frame k h1 h2),h.fx,h.jj,h.rj,h.jk,fun b r hr=>by rw [hh];exact h.col b r hr,?_,?_⟩
 ·intro i R hR
  obtain ⟨h1,fp,h2,h3,h4⟩:=h.rts i R hR
  exact ⟨h1,fp,h2.mono hS (fun b _=>hb b) (fun b _=>hb b) (fun _ x=>x) (fun _ _ _ x=>x),h3,h4⟩
 ·intro t
  exact Qcd _ _ _ (h.slots t) hS (fun b _=>hb b) (fun b _=>hb b) (fun _ x=>x) (fun _ _ _ x=>x)
theorem Quc (xs:Array Value) (d:Nat) (v:Value) (h:d<xs.size) : (xs.setIfInBounds d v).getD d undef=v:=by
 simp [Array.getD_eq_getD_getElem?,h]
theorem getD_set_ne (xs:Array Value) {d t:Nat} (v:Value) (h:t≠d) : (xs.setIfInBounds d v).getD t undef=xs.getD t undef:=by
 simp only [Array.getD_eq_getD_getElem?]
 rw [Array.getElem?_setIfInBounds_ne (by omega)]
theorem Qci.put {E:Env} {s:St} {a:Act} {w:World} {χ:Nat→Option Nat} {hd:Nat→Value} (h:Qci E s a w χ hd) {d:Nat} (hd':d<E.n) {r:AV} {v:Value} (hr:repR w (Qbg χ w) (· ∈ s.us) (tab s hd) r v []) :
  Qci E (s.put d r) (a.put (some d) v) w χ hd:=by
 refine ⟨h.defers,by simp [Act.put,h.size],h.os,h.tape,h.output,h.hsz,h.frame,h.fx,h.jj,h.rj,h.jk,h.col,h.rts,?_⟩
 intro t
 by_cases ht:t=d
 ·subst ht
  rw [St.get_put_same]
  show repR w _ _ _ r ((a.tmps.setIfInBounds t v).getD t undef) []
  rw [Quc _ _ _ (by rw [h.size];exact hd')]
  exact hr
 ·rw [St.get_put_ne s ht]
  show repR w _ _ _ _ ((a.tmps.setIfInBounds d v).getD t undef) []
  rw [getD_set_ne _ _ ht]
  exact h.slots t
theorem Qdk {w:World} {S U:Nat→Prop} {ρ:Tab} (v:Value) : repR w S U ρ .dead v []:=by simp only [repR,rep]
theorem Qcs {w:World} {S U:Nat→Prop} {ρ:Tab} (v:Value) : repR w S U ρ (.lit v) v []:=by simp only [repR,rep];exact ⟨trivial,.refl v⟩
theorem Qci.alloc {E:Env} {s:St} {a:Act} {w:World} {χ:Nat→Option Nat} {hd:Nat→Value} (h:Qci E s a w χ hd) {i:Nat} (hi:i ∉ s.us) {R:Qae} {cs:Array Value} {n:Nat} (hz : 0<R.sz) (hn:R.xs.length≤n) (hm:n≤maxLen)
    (hsz:cs.size=n * R.sz) (hr:Qao w (Qbg χ w) (· ∈ s.us) (tab s hd) R.sz R.xs (cs.toList.take (R.xs.length * R.sz)) []) :
    Qci E (s.add i R) a (w.alloc (.cells cs R.T)) (fun b=>if b=w.heap.size then some i else χ b) (fun j=>if j=i then .slice (some ⟨w.heap.size,0,none⟩) R.xs.length n else hd j):=by
  have hold : ∀ b:Nat,b<w.heap.size→(w.alloc (.cells cs R.T)).heap[b]? = w.heap[b]?:=fun b hb=>heap_alloc_old w _ b hb
  have hS : ∀ b,Qbg χ w b→Qbg (fun b=>if b=w.heap.size then some i else χ b) (w.alloc (.cells cs R.T)) b:=by
    intro b hb
    have:b≠w.heap.size:=by have:=hb.2;omega
    exact ⟨by simp [this,hb.1],by have:=hb.2;simp;omega⟩
  have hSh : ∀ b,Qbg χ w b→(w.alloc (.cells cs R.T)).heap[b]? = w.heap[b]?:=fun b hb=>hold b hb.2
  have hU : ∀ j,j∈s.us→j∈(s.add i R).us:=fun j hj=>List.mem_cons_of_mem _ hj
  have hρ : ∀ j,j∈s.us→∀ x,tab (s.add i R) (fun j=>if j=i then .slice (some ⟨w.heap.size,0,none⟩) R.xs.length n else hd j) j=some x→tab s hd j=some x:=by
    intro j hj x hx
    have hne:j≠i:=fun e=>hi (e ▸ hj)
    simpa [tab,St.root_add_ne s hne,hne] using hx
  refine ⟨h.defers,h.size,h.os,h.tape,h.output,by have:=h.hsz;simp;omega,fun k h1 h2=>(hold k (by have:=h.hsz;omega)).trans (h.frame k h1 h2),Qxr h.fx hi,hU _ h.jj,by rw [St.root_add_ne s (by rintro rfl;exact hi h.jj)];exact h.rj,fun b hb=>by
    have h1:=h.jk b hb
    have h2:=(h.col b _ h1).2
    rw [if_neg (by omega)];exact h1,?_,?_,?_⟩
  · intro b r hr
    split at hr
    · rename_i hb
      subst hb
      exact ⟨fun _=>.inl h.hsz,by simp⟩
    · have:=h.col b r hr
      exact ⟨this.1,by have:=this.2;simp;omega⟩
  · intro j Q hQ
    by_cases hj:j=i
    · subst hj
      rw [St.root_add_same] at hQ
      cases hQ
      refine ⟨List.mem_cons_self,[w.heap.size],⟨hz,cs.toList.take (R.xs.length * R.sz),[],⟨?_,.inr ⟨w.heap.size,n,cs,by simp,Nat.zero_le _,heap_alloc_new w _,hn,hm,hsz,rfl⟩⟩,?_,by simp [Value.ownBlock]⟩,by simp,by simp⟩
      · rw [List.length_take,Array.length_toList,hsz,Nat.min_eq_left]
        exact Nat.mul_le_mul_right _ hn
      · exact Qdi hS hSh hU hρ _ _ _ hr (by simp)
    · rw [St.root_add_ne s hj] at hQ
      obtain ⟨h1,fp,h2,h3,h4⟩:=h.rts j Q hQ
      refine ⟨List.mem_cons_of_mem _ h1,fp,?_,h3,?_⟩
      · simp only [hj,if_false]
        exact h2.mono hS hSh (fun b hb=>hold b (h2.lt b hb)) hU hρ
      · intro b hb
        have:=h2.lt b hb
        have hne:b≠w.heap.size:=by omega
        simp [hne,h4 b hb]
  · intro t
    exact Qcd _ _ _ (h.slots t) hS hSh (by simp) hU hρ
theorem Qci.kill {E:Env} {s:St} {a:Act} {w:World} {χ:Nat→Option Nat} {hd:Nat→Value} (h:Qci E s a w χ hd) (i:Nat) (hiJ:i≠JJ) : Qci E (s.kill i) a w (fun b=>if χ b=some i then none else χ b) hd:=by
  have hS : ∀ b,Qbg χ w b→Qbg (fun b=>if χ b=some i then none else χ b) w b:=fun b hb=>⟨by simp [hb.1],hb.2⟩
  have hρ : ∀ j,j∈s.us→∀ x,tab (s.kill i) hd j=some x→tab s hd j=some x:=by
    intro j _ x hx
    by_cases hj:j=i
    · subst hj;simp [tab,St.root_kill_same] at hx
    · simpa [tab,St.root_kill_ne s hj] using hx
  refine ⟨h.defers,h.size,h.os,h.tape,h.output,h.hsz,h.frame,h.fx,h.jj,by
    by_cases hj:JJ=i
    · rw [hj];exact St.root_kill_same s i
    · rw [St.root_kill_ne s hj];exact h.rj,fun b hb=>by
    have h1:=h.jk b hb
    rw [if_neg (by rw [h1];exact fun e=>hiJ (by cases e;rfl))];exact h1,?_,?_,?_⟩
  · intro b r hr
    split at hr
    · cases hr
    · exact h.col b r hr
  · intro j Q hQ
    by_cases hj:j=i
    · subst hj;rw [St.root_kill_same] at hQ;cases hQ
    · rw [St.root_kill_ne s hj] at hQ
      obtain ⟨h1,fp,h2,h3,h4⟩:=h.rts j Q hQ
      refine ⟨h1,fp,h2.mono hS (fun _ _=>rfl) (fun _ _=>rfl) (fun _ x=>x) hρ,h3,fun b hb=>?_⟩
      have:=h4 b hb
      simp [this,hj]
  · intro t
    exact Qcd _ _ _ (h.slots t) hS (fun _ _=>rfl) (by simp) (fun _ x=>x) hρ
theorem Xcy {l1 l2 l3:List Nat} (h:(l1++l2++l3).Nodup) : (l1++l3).Nodup:=by
 refine List.Nodup.sublist ?_ h
 rw [List.append_assoc]
 exact List.Sublist.append (List.Sublist.refl _) (List.sublist_append_right _ _)
theorem Qci.store {E:Env} {s:St} {a:Act} {w:World} {χ:Nat→Option Nat} {hd:Nat→Value} (h:Qci E s a w χ hd) {i:Nat} {R:Qae} (hR:s.root i=some R) {e o:Nat} {x:List AV} (he:R.xs[e]? = some x) (ho:o<x.length)
    {c:AV} {u:Value} (hc:repR w (Qbg χ w) (· ∈ s.us) (tab s hd) c u []) (h1:u.oneCell'=true) :
    ∃ b m cap,hd i = .slice (some ⟨b,0,none⟩) m cap∧(∃ v0,w.cell? ⟨b,e * R.sz+o,none⟩=some v0)∧w.frozen? ⟨b,e * R.sz+o,none⟩=false ∧
      ∃ χ',Qci E (s.setR i ⟨R.T,R.sz,R.xs.set e (x.set o c)⟩) a (w.setCell ⟨b,e * R.sz+o,none⟩ u) χ' hd:=by
  obtain ⟨hus,fp,⟨hz,vs,fp',hown,hrep,rfl⟩,hnd,hcol⟩:=h.rts i R hR
  have helt:e<R.xs.length:=(List.getElem?_eq_some_iff.1 he).1
  rcases hown.2 with ⟨_,hn⟩ | ⟨b,cap,cur,hhd,_,hheap,hnc,hcm,hcs,htake⟩
  · omega
  obtain ⟨v1,us,v2,f1,fe,f2,rfl,rfl,hl1,hlus,h1c,k1,kx,k2⟩:=Qg8 hrep he
  obtain ⟨x1,u0,x2,g1,gc,g2,rfl,rfl,hlx,m1,mc,m2⟩:=Qox kx (List.getElem?_eq_getElem ho)
  have hpos:e * R.sz+o<R.xs.length * R.sz:=by
    have hxl:x.length=R.sz:=by
      have:=Qb4 _ _ _ kx
      rw [hlus] at this;omega
    calc e * R.sz+o<e * R.sz+R.sz:=by omega
      _=(e+1) * R.sz:=by rw [Nat.add_mul,Nat.one_mul]
      _≤R.xs.length * R.sz:=Nat.mul_le_mul_right _ helt
  have hown':=hown
  rw [hhd] at hown'
  have hcell:=hown'.cellAt (e * R.sz+o) hpos
  have hidx:(v1++(x1++u0 :: x2)++v2)[e * R.sz+o]? = some u0:=by
    rw [List.append_assoc,List.getElem?_append_right (by omega),show e * R.sz+o - v1.length=o by omega,List.append_assoc,List.getElem?_append_right (by omega),show o - x1.length=0 by omega]
    rfl
  rw [hidx] at hcell
  obtain ⟨hst,hgr⟩:=hown'.stored (e * R.sz+o) u
  have hset:(v1++(x1++u0 :: x2)++v2).set (e * R.sz+o) u=v1++(x1++u :: x2)++v2:=by
    rw [List.append_assoc,List.set_append_right _ _ (by omega),show e * R.sz+o - v1.length=o by omega,List.append_assoc,List.set_append_right _ _ (by omega),show o - x1.length=0 by omega]
    simp
  rw [hset] at hst
  have hij:i≠JJ:=fun e=>by rw [e,h.rj] at hR;cases hR
  refine ⟨b,R.xs.length,cap,hhd,⟨u0,hcell⟩,hown'.frozenAt _,?_⟩
  -- the blocks
  have hbi : χ b=some i:=hcol b (by simp [hhd,Value.ownBlock])
  have hother : ∀ k:Nat,k≠b→(w.setCell ⟨b,e * R.sz+o,none⟩ u).heap[k]? = w.heap[k]?:=fun k hk=>heap_setCell_other w ⟨b,e * R.sz+o,none⟩ k u hk
  have hsize:(w.setCell ⟨b,e * R.sz+o,none⟩ u).heap.size=w.heap.size:=by simp [World.setCell]
  have hblt:b<w.heap.size:=(h.col b i hbi).2
  let fpn:List Nat:=(hd i).ownBlock.toList++(f1++(g1++g2)++f2)
  let χ':Nat→Option Nat:=fun k=>if χ k=some i then (if k∈fpn then some i else none) else χ k
  have hS : ∀ k,Qbg χ w k→Qbg χ' (w.setCell ⟨b,e * R.sz+o,none⟩ u) k:=by
    intro k hk
    refine ⟨?_,by rw [hsize];exact hk.2⟩
    simp [χ',hk.1]
  have hSh : ∀ k,Qbg χ w k→(w.setCell ⟨b,e * R.sz+o,none⟩ u).heap[k]? = w.heap[k]?:=fun k hk=>hother k (fun e=>by rw [e,Qbg,hbi] at hk;simp at hk)
  have htab:tab (s.setR i ⟨R.T,R.sz,R.xs.set e (x.set o c)⟩) hd=tab s hd:=by
    funext j
    by_cases hj:j=i
    · subst hj;simp [tab,St.root_setR_same,hR]
    · simp [tab,St.root_setR_ne s hj]
  have hρ : ∀ j,j∈s.us→∀ y,tab (s.setR i ⟨R.T,R.sz,R.xs.set e (x.set o c)⟩) hd j=some y→tab s hd j=some y:=fun j _ y hy=>by rwa [htab] at hy
  -- the blocks of the root lie apart from its first one
  have hnb : ∀ k∈f1++(g1++gc++g2)++f2,k≠b:=by
    intro k hk e
    subst e
    simp only [hhd,Value.ownBlock,Option.toList_some,List.singleton_append,List.nodup_cons] at hnd
    exact hnd.1 hk
  refine ⟨χ',⟨h.defers,h.size,h.os,h.tape,h.output,by rw [hsize];exact h.hsz,?_,h.fx,h.jj,by rw [St.root_setR_ne s (Ne.symm hij)];exact h.rj,fun k hk=>by
    have h1:=h.jk k hk
    show (if χ k=some i then _ else _)=_
    rw [if_neg (by rw [h1];exact fun e=>hij (by cases e;rfl))];exact h1,?_,?_,?_⟩⟩
  · intro k hk1 hk2
    refine (hother k (fun e=>?_)).trans (h.frame k hk1 hk2)
    subst e
    rcases (h.col k i hbi).1 hij with hh | hh
    · omega
    · exact hk2 hh
  · intro k r hr
    rw [hsize]
    have : χ k=some r:=by
      simp only [χ'] at hr
      split at hr
      · rename_i hh
        split at hr
        · cases hr;exact hh
        · cases hr
      · exact hr
    exact h.col k r this
  · intro j Q hQ
    by_cases hj:j=i
    · subst hj
      rw [St.root_setR_same] at hQ
      cases hQ
      refine ⟨hus,fpn,⟨hz,v1++(x1++u :: x2)++v2,f1++(g1++g2)++f2,by rw [List.length_set,hhd];exact hst,?_,rfl⟩,?_,?_⟩
      · have hnbm : ∀ k∈f1++(g1++gc++g2)++f2,(w.setCell ⟨b,e * R.sz+o,none⟩ u).heap[k]? = w.heap[k]?:=fun k hk=>hother k (hnb k hk)
        have hc':=Qcd (w2:=w.setCell ⟨b,e * R.sz+o,none⟩ u) (S2:=Qbg χ' (w.setCell ⟨b,e * R.sz+o,none⟩ u)) (U2:=(· ∈ s.us)) (ρ2:=tab (s.setR j ⟨R.T,R.sz,R.xs.set e (x.set o c)⟩) hd) c u [] hc hS hSh (by simp) (fun _ y=>y) hρ
        have m1':=Qdx (w2:=w.setCell ⟨b,e * R.sz+o,none⟩ u) (S2:=Qbg χ' (w.setCell ⟨b,e * R.sz+o,none⟩ u)) (U2:=(· ∈ s.us)) (ρ2:=tab (s.setR j ⟨R.T,R.sz,R.xs.set e (x.set o c)⟩) hd) _ _ _ m1 hS hSh (fun k hk=>hnbm k (by simp [hk])) (fun _ y=>y) hρ
        have m2':=Qdx (w2:=w.setCell ⟨b,e * R.sz+o,none⟩ u) (S2:=Qbg χ' (w.setCell ⟨b,e * R.sz+o,none⟩ u)) (U2:=(· ∈ s.us)) (ρ2:=tab (s.setR j ⟨R.T,R.sz,R.xs.set e (x.set o c)⟩) hd) _ _ _ m2 hS hSh (fun k hk=>hnbm k (by simp [hk])) (fun _ y=>y) hρ
        have k1':=Qdi (w2:=w.setCell ⟨b,e * R.sz+o,none⟩ u) (S2:=Qbg χ' (w.setCell ⟨b,e * R.sz+o,none⟩ u)) (U2:=(· ∈ s.us)) (ρ2:=tab (s.setR j ⟨R.T,R.sz,R.xs.set e (x.set o c)⟩) hd) hS hSh (fun _ y=>y) hρ _ _ _ k1 (fun k hk=>hnbm k (by simp [hk]))
        have k2':=Qdi (w2:=w.setCell ⟨b,e * R.sz+o,none⟩ u) (S2:=Qbg χ' (w.setCell ⟨b,e * R.sz+o,none⟩ u)) (U2:=(· ∈ s.us)) (ρ2:=tab (s.setR j ⟨R.T,R.sz,R.xs.set e (x.set o c)⟩) hd) hS hSh (fun _ y=>y) hρ _ _ _ k2 (fun k hk=>hnbm k (by simp [hk]))
        have hrow:=Qr4 ho m1' hc' m2'
        rw [show g1++[]++g2=g1++g2 by simp] at hrow
        refine Qip helt k1' ?_ ?_ hrow k2'
        · simpa using hlus
        · intro y hy
          rcases List.mem_append.1 hy with hy | hy
          · exact h1c y (by simp [hy])
          · rcases List.mem_cons.1 hy with rfl | hy
            · exact h1
            · exact h1c y (by simp [hy])
      · have hh:((hd j).ownBlock.toList++f1++g1++gc++(g2++f2)).Nodup:=by simpa [List.append_assoc] using hnd
        have:=Xcy hh
        simpa [fpn,List.append_assoc] using this
      · intro k hk
        have hk0 : χ k=some j:=by
          refine hcol k ?_
          simp only [fpn,List.mem_append] at hk ⊢
          rcases hk with hk | (hk | hk | hk) | hk
          · exact .inl hk
          · exact .inr (.inl (.inl hk))
          · exact .inr (.inl (.inr (.inl (.inl hk))))
          · exact .inr (.inl (.inr (.inr hk)))
          · exact .inr (.inr hk)
        simp [χ',hk0,hk]
    · rw [St.root_setR_ne s hj] at hQ
      obtain ⟨q1,fq,q2,q3,q4⟩:=h.rts j Q hQ
      have hne : ∀ k∈fq,k≠b:=fun k hk e=>by
        have:=q4 k hk
        rw [e,hbi] at this
        exact hj (by cases this;rfl)
      refine ⟨q1,fq,q2.mono hS hSh (fun k hk=>hother k (hne k hk)) (fun _ y=>y) hρ,q3,fun k hk=>?_⟩
      have:=q4 k hk
      simp [χ',this,hj]
  · intro t
    exact Qcd _ _ _ (h.slots t) hS hSh (by simp) (fun _ y=>y) hρ
end Go.T
set_option linter.unusedVariables false
namespace Go.T
open Go Go.RowKit
structure TI where
 sz:Nat
 bytes:Nat
 und:TypeDesc
 zero:List Value
def Qi4 (P:Program) (t:Nat) : Option TI:=
 match P.info? t,P.underlying t with
 | some i,some d=>match i.zero with
  | some z=>some ⟨i.size,i.bytes,d,z.cells.toList⟩
  | none=>none
 | _,_=>none
abbrev Tys:=List (Nat×TI)
def TOK (P:Program) : Tys→Prop
 | []=>True
 | (t,ti) :: r=>Qi4 P t=some ti∧TOK P r
theorem TOK.get {P:Program} : ∀ {Θ:Tys},TOK P Θ→∀ {t:Nat} {ti:TI},Θ.lookup t=some ti→Qi4 P t=some ti
 | [],_,t,ti,h=>by simp at h
 | (t',ti') :: r,⟨h1,h2⟩,t,ti,h=>by
  by_cases e:t=t'
  ·subst e;rw [Qan] at h;cases h;exact h1
  ·rw [Qaf e] at h;exact TOK.get h2 h
theorem Qas {P:Program} {t:Nat} {ti:TI} (h:Qi4 P t=some ti) : P.underlying t=some ti.und:=by
 unfold Qi4 at h
 split at h
 ·split at h
  ·cases h;assumption
  ·cases h
 ·cases h
theorem Qo0 {P:Program} {t:Nat} {ti:TI} (h:Qi4 P t=some ti) : ∃ i z,P.info? t=some i∧i.size=ti.sz∧i.bytes=ti.bytes∧i.zero=some z∧z.cells.toList=ti.zero:=by
 unfold Qi4 at h
 split at h
 ·split at h
  ·cases h
   exact ⟨_,_,by assumption,rfl,rfl,by assumption,rfl⟩
  ·cases h
 ·cases h
def Xh4:TypeDesc→Bool
 | .struct _=>true
 | .array _ _=>true
 | _=>false
def Qal (s:St) : Operand→AV
 | .tmp t=>s.get t
 | .const v=>.lit v
 | .func f=>.fn f []
 | .global _=>.dead
theorem Qak {E:Env} {s:St} {a:Act} {w:World} {χ:Nat→Option Nat} {hd:Nat→Value} (h:Qci E s a w χ hd) : ∀ x:Operand,repR w (Qbg χ w) (· ∈ s.us) (tab s hd) (Qal s x) (a.eval x) []
 | .tmp t=>h.slots t
 | .const v=>Qcs v
 | .func f=>by simp only [Qal,repR,Qah];exact ⟨[],rfl,rfl,trivial⟩
 | .global g=>Qdk _
def Qoz (op:BinOp) (x y:Value) : Option Value:=
 match op,x,y with
 | .add,.int k a,.int k' b=>if k=k' then some (.int k (k.wrap (a+b))) else none
 | .sub,.int k a,.int k' b=>if k=k' then some (.int k (k.wrap (a - b))) else none
 | .mul,.int k a,.int k' b=>if k=k' then some (.int k (k.wrap (a * b))) else none
 | .quo,.int k a,.int k' b=>if k=k' then (if b=0 then none else some (.int k (k.wrap (a.tdiv b)))) else none
 | .rem,.int k a,.int k' b=>if k=k' then (if b=0 then none else some (.int k (a.tmod b))) else none
 | .eql,.int k a,.int k' b=>if k=k' then some (.bool (a == b)) else none
 | .neq,.int k a,.int k' b=>if k=k' then some (.bool (a != b)) else none
 | .lss,.int k a,.int k' b=>if k=k' then some (.bool (decide (a<b))) else none
 | .leq,.int k a,.int k' b=>if k=k' then some (.bool (decide (a≤b))) else none
 | .gtr,.int k a,.int k' b=>if k=k' then some (.bool (decide (a > b))) else none
 | .geq,.int k a,.int k' b=>if k=k' then some (.bool (decide (a ≥ b))) else none
 | .shl,.int k a,.int _ b=>if b<0 then none else some (.int k (k.wrap (a * 2 ^ (min b.toNat k.bits))))
 | .shr,.int k a,.int _ b=>if b<0 then none else some (.int k (a.fdiv (2 ^ (min b.toNat k.bits))))
 | .and,.int k a,.int k' b=>if k=k' then some (.int k (k.wrap (BitVec.ofInt k.bits a &&& BitVec.ofInt k.bits b).toNat)) else none
 | .or,.int k a,.int k' b=>if k=k' then some (.int k (k.wrap (BitVec.ofInt k.bits a ||| BitVec.ofInt k.bits b).toNat)) else none
 | .xor,.int k a,.int k' b=>if k=k' then some (.int k (k.wrap (BitVec.ofInt k.bits a ^^^ BitVec.ofInt k.bits b).toNat)) else none
 | .andNot,.int k a,.int k' b=>if k=k' then some (.int k (k.wrap (BitVec.ofInt k.bits a &&& ~~~BitVec.ofInt k.bits b).toNat)) else none
 | .eql,.string a,.string b=>some (.bool (a.toList == b.toList))
 | .neq,.string a,.string b=>some (.bool (!(a.toList == b.toList)))
 | .add,.string a,.string b=>if ((a.size+b.size:Nat) : Int) > IntKind.i64.max then none else some (.string (a++b))
 | _,_,_=>none
theorem Qr5 {P:Program} {w:World} {op:BinOp} {x y v:Value} {X Y:Operand} {t:TypeId} (h:Qoz op x y=some v) :
  (do eqGuard op t X Y x y;binOp op t x y:Sem Value).run P w = .ok v w:=by
 unfold Qoz at h
 split at h <;> first | (cases h;done) | skip
 all_goals (try split at h)
 all_goals (try split at h)
 all_goals first | (cases h;done) | skip
 all_goals (cases h;try subst_vars)
 all_goals simp_all [eqGuard,binOp,Op.intArith,Op.intCmp,Op.intDiv,Op.intBits,Op.shift,Op.stringOp]
 all_goals (intros;omega)
def Xk7 (op:UnOp) (x:Value) : Option Value:=
 match op,x with
 | .not,.bool b=>some (.bool !b)
 | .neg,.int k n=>some (.int k (k.wrap (0 - n)))
 | _,_=>none
theorem Xam {P:Program} {w:World} {op:UnOp} {x v:Value} (h:Xk7 op x=some v) : (Op.unary op x).run P w = .ok v w:=by
 unfold Xk7 at h
 split at h <;> cases h <;> simp [Op.unary,Op.intArith]
theorem Qqv {op:BinOp} {x y v:Value} (h:Qoz op x y=some v) : nf x=true∧nf y=true:=by
 unfold Qoz at h
 split at h <;> first | (cases h;done) | exact ⟨rfl,rfl⟩
theorem Xic {op:UnOp} {x v:Value} (h:Xk7 op x=some v) : nf x=true:=by
 unfold Xk7 at h
 split at h <;> first | (cases h;done) | rfl
end Go.T
set_option linter.unusedVariables false
namespace Go.T
open Go Go.RowKit
theorem Qku (b o n:Nat) : (⟨b,o,none⟩ : Addr).add n=⟨b,o+n,none⟩:=by unfold Addr.add;split <;> simp_all
def AV.plain:AV→Bool
 | .lit _ | .ro _ _ | .sl _ _ _ | .ptr _ _ _ | .rop _ _ | .dead=>true
 | _=>false
theorem Qu4 {w:World} {S U:Nat→Prop} {ρ:Tab} {c:AV} {u:Value} {fp:List Nat} (h:repR w S U ρ c u fp) (hp:c.plain=true) : fp=[]:=by
 cases c <;> simp only [AV.plain,repR,rep] at h hp <;> first | exact h.1 | exact h | cases hp
theorem Qr6 {w:World} {S U:Nat→Prop} {ρ:Tab} : ∀ (cs:List AV) (vs:List Value) (fp:List Nat),Qah w S U ρ cs vs fp→cs.all AV.plain=true→fp=[]
 | [],_,_,h,_=>by simp only [Qah] at h;exact h.2
 | c :: cs,_,_,h,hp=>by
  simp only [Qah] at h
  obtain ⟨u,us,f1,f2,rfl,rfl,h1,h2⟩:=h
  simp only [List.all_cons,Bool.and_eq_true] at hp
  rw [Qu4 h1 hp.1,Qr6 cs us f2 h2 hp.2];rfl
def Qwy (s:St) : AV→Option (List AV×Nat)
 | .ptr id e o=>match s.root id with
  | some R=>match R.xs[e]? with
   | some x=>some (x,o)
   | none=>none
  | none=>none
 | .rop cs o=>some (cs,o)
 | _=>none
theorem Qth {w:World} {S U:Nat→Prop} {ρ:Tab} {x:List AV} {us:List Value} {f:List Nat} (h:Qah w S U ρ x us f) (o n:Nat) (hp:((x.drop o).take n).all AV.plain=true) : Qah w S U ρ ((x.drop o).take n) ((us.drop o).take n) []:=by
 have hx:x=x.take o++((x.drop o).take n++(x.drop o).drop n):=by rw [List.take_append_drop,List.take_append_drop]
 have hlen:=Qb4 _ _ _ h
 rw [hx] at h
 obtain ⟨v1,v2,f1,f2,rfl,rfl,h1,h2⟩:=Qis _ _ _ _ h
 obtain ⟨v3,v4,f3,f4,rfl,rfl,h3,h4⟩:=Qis _ _ _ _ h2
 have hf:=Qr6 _ _ _ h3 hp
 subst hf
 have l1:=Qb4 _ _ _ h1
 have l3:=Qb4 _ _ _ h3
 have l4:=Qb4 _ _ _ h4
 have e:((v1++(v3++v4)).drop o).take n=v3:=by
  simp only [List.length_take,List.length_drop] at l1 l3 l4
  by_cases ho:o≤x.length
  ·rw [List.drop_append_of_le_length (by omega),List.drop_of_length_le (by omega),List.nil_append]
   by_cases hn:n≤x.length - o
   ·rw [List.take_append_of_le_length (by omega),List.take_of_length_le (by omega)]
   ·have:v4=[]:=List.eq_nil_of_length_eq_zero (by omega)
    subst this
    rw [List.append_nil,List.take_of_length_le (by omega)]
  ·have e3:v3=[]:=List.eq_nil_of_length_eq_zero (by omega)
   have e4:v4=[]:=List.eq_nil_of_length_eq_zero (by omega)
   subst e3;subst e4
   rw [List.append_nil,List.append_nil,List.drop_of_length_le (by omega),List.take_nil]
 rw [e];exact h3
theorem Qzr {E:Env} {s:St} {a:Act} {w:World} {χ:Nat→Option Nat} {hd:Nat→Value} (h:Qci E s a w χ hd) {p:AV} {u:Value} (hp:repR w (Qbg χ w) (· ∈ s.us) (tab s hd) p u []) {x:List AV} {o:Nat} (hx:Qwy s p=some (x,o)) :
  ∃ b k us f,u = .pointer (some ⟨b,k+o,none⟩)∧At w b k us∧Qah w (Qbg χ w) (· ∈ s.us) (tab s hd) x us f:=by
 cases p with
 | ptr id e o' =>
  simp only [Qwy] at hx
  split at hx
  case h_2=>cases hx
  rename_i R hR
  split at hx
  case h_2=>cases hx
  rename_i y hy
  cases hx
  simp only [repR] at hp
  obtain ⟨_,hus,hp⟩:=hp
  obtain ⟨hlt,b,m,c,hh,rfl⟩:=hp (hd id) R.xs.length R.sz (by simp [tab,hR])
  obtain ⟨_,fp,⟨hz,vs,fp',hown,hrep,rfl⟩,_,_⟩:=h.rts id R hR
  obtain ⟨v1,us,v2,f1,fe,f2,rfl,rfl,hl1,hlus,h1c,k1,kx,k2⟩:=Qg8 hrep hy
  refine ⟨b,e * R.sz,us,fe,rfl,?_,kx⟩
  have hat:=Qhe hown (b:=b) (by rw [hh];rfl)
  intro k v hk
  have hkl:k<us.length:=(List.getElem?_eq_some_iff.1 hk).1
  have:=hat (e * R.sz+k) v (by rw [List.append_assoc,List.getElem?_append_right (by omega),show e * R.sz+k - v1.length=k by omega,List.getElem?_append_left hkl];exact hk)
  simpa using this
 | rop cs o' =>
  simp only [Qwy] at hx
  cases hx
  simp only [repR,rep] at hp
  obtain ⟨_,b,o0,vs,rfl,hS,hat,hr⟩:=hp
  exact ⟨b,o0,vs,[],rfl,hat,Qmc _ _ _ hr⟩
 | _=>simp [Qwy] at hx
def Qs5 (Θ:Tys) (s:St) (t:Nat) (p:AV) : Option AV:=
 match Θ.lookup t with
 | none=>none
 | some ti=>match Qwy s p with
  | none=>none
  | some (x,o) =>
   if Xh4 ti.und then
    if o+ti.sz≤x.length then
     if ((x.drop o).take ti.sz).all AV.plain then some (.agg ((x.drop o).take ti.sz)) else none
    else none
   else match x[o]? with
    | some c=>if c.plain then some c else none
    | none=>none
theorem Qlw {P:Program} {w:World} {t:Nat} {d:TypeDesc} (h:P.underlying t=some d) : (isAgg t).run P w = .ok (Xh4 d) w:=by
 unfold isAgg
 simp only [Sem.run_bind,run_underlying h,Result.andThen_ok]
 cases d <;> rfl
theorem Qco {P:Program} {w:World} {t:Nat} {ti:TI} (h:Qi4 P t=some ti) : (sizeOf t).run P w = .ok ti.sz w:=by
 obtain ⟨i,z,hi,hs,_⟩:=Qo0 h
 simp [sizeOf,typeInfo,hi,hs]
theorem Qqh {E:Env} {s:St} {a:Act} {w:World} {χ:Nat→Option Nat} {hd:Nat→Value} {Θ:Tys} (hΘ:TOK E.P Θ) (h:Qci E s a w χ hd) {t:Nat} {p r:AV} {u:Value} (hp:repR w (Qbg χ w) (· ∈ s.us) (tab s hd) p u [])
    (he:Qs5 Θ s t p=some r) : ∃ v,(Instr.loadAt t u).run E.P w = .ok v w∧repR w (Qbg χ w) (· ∈ s.us) (tab s hd) r v []:=by
  unfold Qs5 at he
  split at he
  · cases he
  rename_i ti hti
  have hti:=hΘ.get hti
  split at he
  · cases he
  rename_i x o hx
  obtain ⟨b,k,us,f,rfl,hat,hr⟩:=Qzr h hp hx
  have hlen:=Qb4 _ _ _ hr
  split at he
  · rename_i hagg
    split at he
    case isFalse=>cases he
    rename_i hle
    split at he
    case isFalse=>cases he
    rename_i hpl
    cases he
    have hr2:=Qth hr o ti.sz hpl
    refine ⟨.agg ((us.drop o).take ti.sz).toArray,?_,by simp only [repR];exact ⟨_,rfl,hr2⟩⟩
    have hll:((us.drop o).take ti.sz).length=ti.sz:=by rw [List.length_take,List.length_drop];omega
    have hl:=run_loadCells_list (P:=E.P) (w:=w) ⟨b,k+o,none⟩ ((us.drop o).take ti.sz) (by
      intro j v hj
      rw [Qku]
      have hjl:j<ti.sz:=by have:=(List.getElem?_eq_some_iff.1 hj).1;omega
      rw [List.getElem?_take,if_pos hjl,List.getElem?_drop] at hj
      have:=hat (o+j) v hj
      rwa [← Nat.add_assoc] at this)
    rw [hll] at hl
    simp only [Instr.loadAt,Instr.sureAddr,Sem.run_bind,Sem.run_pure,Result.andThen_ok,loadVar,Qlw (Qas hti),hagg,if_true,Qco hti,hl]
  · rename_i hagg
    split at he
    case h_2=>cases he
    rename_i c hc
    split at he
    case isFalse=>cases he
    rename_i hpl
    cases he
    obtain ⟨v1,v,v2,f1,fc,f2,rfl,rfl,hl1,_,hcr,_⟩:=Qox hr hc
    have hfc:=Qu4 hcr hpl
    subst hfc
    refine ⟨v,?_,hcr⟩
    have hcell:=hat o v (by rw [List.getElem?_append_right (by omega),hl1];simp)
    have hagg':Xh4 ti.und=false:=by simpa using hagg
    simp only [Instr.loadAt,Instr.sureAddr,Sem.run_bind,Sem.run_pure,Result.andThen_ok,loadVar,Qlw (Qas hti),hagg']
    simp [hcell]
def Xdw (Θ:Tys) (s:St) (t:Nat) (x i:AV) : Option AV:=
  match i with
  | .lit (.int k i) =>
    match Θ.lookup t with
    | some ⟨_,_,.slice el,_⟩ =>
      match Θ.lookup el,x with
      | some te,.sl id off len=>match s.root id with
        | some R=>if R.sz=te.sz then (if 0≤i then (if i<(len:Int) then some (.ptr id (off+i.toNat) 0) else none) else none) else none
        | none=>none
      | some te,.ro sz xs=>if sz=te.sz then (if 0≤i then (match xs[i.toNat]? with | some x=>some (.rop x 0) | none=>none) else none) else none
      | _,_=>none
    | some ⟨_,_,.array n el,_⟩ =>
      match Θ.lookup el with
      | some te=>if 0≤i then (if i<(n:Int) then (match x with
        | .ptr id e o=>if (s.root id).isSome then some (.ptr id e (o+i.toNat * te.sz)) else none
        | .rop cs o=>some (.rop cs (o+i.toNat * te.sz))
        | _=>none) else none) else none
      | none=>none
    | _=>none
  | _=>none
theorem Xd3 {w:World} {S:Nat→Prop} {sz:Nat} {xs:List (List AV)} {u:Value} (h:rep w S (.ro sz xs) u []) {e:Nat} {x:List AV} (he:xs[e]? = some x) :
  ∃ b o us cap,u = .slice (some ⟨b,o,none⟩) xs.length cap∧S b∧At w b (o+e * sz) us∧Qfm w S x us []:=by
 simp only [rep] at h
 obtain ⟨_,A,cap,rfl,hl,h⟩:=h
 rcases h with rfl | ⟨b,o,vs,rfl,hS,hat,hr⟩
 ·simp at he
 have aux : ∀ (xs:List (List AV)) (vs:List Value) (e:Nat),Qdt w S sz xs vs []→xs[e]? = some x→∃ v1 us v2,vs=v1++us++v2∧v1.length=e * sz∧Qfm w S x us []:=by
  intro xs
  induction xs with
  | nil=>intro vs e _ he;simp at he
  | cons y ys ih =>
   intro vs e hr he
   simp only [Qdt] at hr
   obtain ⟨us,us',f1,f2,rfl,hf,hl,_,h1,h2⟩:=hr
   obtain ⟨rfl,rfl⟩:=List.append_eq_nil_iff.1 hf.symm
   cases e with
   | zero=>simp at he;subst he;exact ⟨[],us,us',by simp,by simp,h1⟩
   | succ e =>
    simp at he
    obtain ⟨v1,us2,v2,rfl,hl1,h3⟩:=ih us' e h2 he
    exact ⟨us++v1,us2,v2,by simp,by simp [hl,hl1,Nat.add_mul,Nat.add_comm],h3⟩
 obtain ⟨v1,us,v2,rfl,hl1,h3⟩:=aux xs vs e hr he
 refine ⟨b,o,us,cap,rfl,hS,?_,h3⟩
 intro k v hk
 have hkl:k<us.length:=(List.getElem?_eq_some_iff.1 hk).1
 have:=hat (e * sz+k) v (by rw [List.append_assoc,List.getElem?_append_right (by omega),show e * sz+k - v1.length=k by omega,List.getElem?_append_left hkl];exact hk)
 rwa [← Nat.add_assoc] at this
theorem Qyg {E:Env} {s:St} {a:Act} {w:World} {χ:Nat→Option Nat} {hd:Nat→Value} {Θ:Tys} (hΘ:TOK E.P Θ) (h:Qci E s a w χ hd) {t:Nat} {x i r:AV} {u ui:Value} (hx:repR w (Qbg χ w) (· ∈ s.us) (tab s hd) x u []) (hi:repR w (Qbg χ w) (· ∈ s.us) (tab s hd) i ui [])
  (he:Xdw Θ s t x i=some r) : ∃ v,(Instr.indexAt t u ui).run E.P w = .ok v w∧repR w (Qbg χ w) (· ∈ s.us) (tab s hd) r v []:=by
 unfold Xdw at he
 split at he
 case h_2=>cases he
 rename_i k i
 simp only [repR,rep] at hi
 obtain ⟨_,rfl⟩:=hi
 split at he
 ·rename_i sz by_ el ze hti
  have hti:=hΘ.get hti
  split at he
  ·rename_i te id off len hte
   have hte:=hΘ.get hte
   split at he
   case h_2=>cases he
   rename_i R hR
   split at he
   case isFalse=>cases he
   rename_i hsz
   split at he
   case isFalse=>cases he
   rename_i h0
   split at he
   case isFalse=>cases he
   rename_i h1
   cases he
   simp only [repR] at hx
   obtain ⟨_,hus,hx⟩:=hx
   obtain ⟨hle,⟨A,cap,rfl,hcap,_,hA⟩,_⟩:=hx (hd id) R.xs.length R.sz (by simp [tab,hR])
   obtain ⟨b,m,c,hh,rfl⟩:=hA (by omega)
   refine ⟨.pointer (some ⟨b,(off+i.toNat) * R.sz,none⟩),?_,?_⟩
   ·have hu:=run_underlying (P:=E.P) (w:=w) (Qas hti)
    simp only [Instr.indexAt,asIntOf,Sem.run_bind,Sem.run_pure,Result.andThen_ok,hu]
    simp [h0,h1,Qco hte,Qku,hsz,Nat.add_mul]
   ·simp only [repR]
    refine ⟨trivial,hus,?_⟩
    intro h' n sz hh'
    simp [tab,hR] at hh'
    obtain ⟨rfl,rfl,rfl⟩:=hh'
    exact ⟨by omega,b,m,c,hh,by simp⟩
  ·rename_i te sz' xs hte
   have hte:=hΘ.get hte
   split at he
   case isFalse=>cases he
   rename_i hsz
   split at he
   case isFalse=>cases he
   rename_i h0
   split at he
   case h_2=>cases he
   rename_i y hy
   cases he
   simp only [repR] at hx
   obtain ⟨b,o,us,cap,rfl,hS,hat,hr⟩:=Xd3 hx hy
   have hlt:i.toNat<xs.length:=(List.getElem?_eq_some_iff.1 hy).1
   refine ⟨.pointer (some ⟨b,o+i.toNat * sz',none⟩),?_,?_⟩
   ·have hu:=run_underlying (P:=E.P) (w:=w) (Qas hti)
    have h1:i<(xs.length:Int):=by omega
    simp only [Instr.indexAt,asIntOf,Sem.run_bind,Sem.run_pure,Result.andThen_ok,hu]
    simp [h0,h1,Qco hte,Qku,hsz]
   ·simp only [repR,rep]
    exact ⟨trivial,b,o+i.toNat * sz',us,rfl,hS,hat,hr⟩
  ·cases he
 ·rename_i sz by_ n el ze hti
  have hti:=hΘ.get hti
  split at he
  case h_2=>cases he
  rename_i te hte
  have hte:=hΘ.get hte
  split at he
  case isFalse=>cases he
  rename_i h0
  split at he
  case isFalse=>cases he
  rename_i h1
  have hu:=run_underlying (P:=E.P) (w:=w) (Qas hti)
  split at he
  ·rename_i id e o
   split at he
   case isFalse=>cases he
   rename_i hsome
   cases he
   simp only [repR] at hx ⊢
   obtain ⟨_,hus,hx⟩:=hx
   ·obtain ⟨R,hR⟩:=Option.isSome_iff_exists.1 hsome
    obtain ⟨hlt,b,m,c,hh,rfl⟩:=hx (hd id) R.xs.length R.sz (by simp [tab,hR])
    refine ⟨.pointer (some ⟨b,e * R.sz+o+i.toNat * te.sz,none⟩),?_,trivial,hus,?_⟩
    ·simp only [Instr.indexAt,asIntOf,Sem.run_bind,Sem.run_pure,Result.andThen_ok,hu]
     simp [h0,h1,Qco hte,Qku,Instr.sureAddr,hu]
    ·intro h' n' sz'' hh'
     simp [tab,hR] at hh'
     obtain ⟨rfl,rfl,rfl⟩:=hh'
     exact ⟨hlt,b,m,c,hh,by simp [Nat.add_assoc]⟩
  ·rename_i cs o
   cases he
   simp only [repR,rep] at hx ⊢
   obtain ⟨_,b,o0,vs,rfl,hS,hat,hr⟩:=hx
   refine ⟨.pointer (some ⟨b,o0+o+i.toNat * te.sz,none⟩),?_,trivial,b,o0,vs,by simp [Nat.add_assoc],hS,hat,hr⟩
   simp only [Instr.indexAt,asIntOf,Sem.run_bind,Sem.run_pure,Result.andThen_ok,hu]
   simp [h0,h1,Qco hte,Qku,Instr.sureAddr,hu]
  ·cases he
 ·cases he
end Go.T
set_option linter.unusedVariables false
namespace Go.T
open Go Go.RowKit
def Qy9 (Θ:Tys) (s:St) (t:Nat) (x:AV) (f:Nat) : Option AV:=
 match Θ.lookup t with
 | some ⟨_,_,.struct fs,_⟩=>match fs[f]? with
  | some fd=>match Θ.lookup fd.type with
   | some tf=>if tf.sz=0 then none else match x with
    | .ptr id e o=>if (s.root id).isSome then some (.ptr id e (o+fd.offset)) else none
    | .rop cs o=>some (.rop cs (o+fd.offset))
    | _=>none
   | none=>none
  | none=>none
 | _=>none
theorem Qum {E:Env} {s:St} {a:Act} {w:World} {χ:Nat→Option Nat} {hd:Nat→Value} {Θ:Tys} (hΘ:TOK E.P Θ) (h:Qci E s a w χ hd) {t f:Nat} {x r:AV} {u:Value} (hx:repR w (Qbg χ w) (· ∈ s.us) (tab s hd) x u [])
  (he:Qy9 Θ s t x f=some r) : ∃ v,(Instr.fieldAt t u f).run E.P w = .ok v w∧repR w (Qbg χ w) (· ∈ s.us) (tab s hd) r v []:=by
 unfold Qy9 at he
 split at he
 case h_2=>cases he
 rename_i sz by_ fs ze hti
 have hu:=run_underlying (P:=E.P) (w:=w) (Qas (hΘ.get hti))
 split at he
 case h_2=>cases he
 rename_i fd hfd
 split at he
 case h_2=>cases he
 rename_i tf htf
 have htf:=Qco (P:=E.P) (w:=w) (hΘ.get htf)
 split at he
 case isTrue=>cases he
 rename_i hz
 split at he
 ·rename_i id e o
  split at he
  case isFalse=>cases he
  rename_i hsome
  cases he
  simp only [repR] at hx ⊢
  obtain ⟨_,hus,hx⟩:=hx
  obtain ⟨R,hR⟩:=Option.isSome_iff_exists.1 hsome
  obtain ⟨hlt,b,m,c,hh,rfl⟩:=hx (hd id) R.xs.length R.sz (by simp [tab,hR])
  refine ⟨.pointer (some ⟨b,e * R.sz+o+fd.offset,none⟩),?_,trivial,hus,?_⟩
  ·simp only [Instr.fieldAt,Sem.run_bind,hu,Result.andThen_ok]
   simp [hfd,Instr.sureAddr,fieldPlace,htf,hz,Qku]
  ·intro h' n' sz'' hh'
   simp [tab,hR] at hh'
   obtain ⟨rfl,rfl,rfl⟩:=hh'
   exact ⟨hlt,b,m,c,hh,by simp [Nat.add_assoc]⟩
 ·rename_i cs o
  cases he
  simp only [repR,rep] at hx ⊢
  obtain ⟨_,b,o0,vs,rfl,hS,hat,hr⟩:=hx
  refine ⟨.pointer (some ⟨b,o0+o+fd.offset,none⟩),?_,trivial,b,o0,vs,by simp [Nat.add_assoc],hS,hat,hr⟩
  simp only [Instr.fieldAt,Sem.run_bind,hu,Result.andThen_ok]
  simp [hfd,Instr.sureAddr,fieldPlace,htf,hz,Qku]
 ·cases he
def Qtf (Θ:Tys) (t:Nat) (cs:List AV) (off:Nat) : Option AV:=
 match Θ.lookup t with
 | some ti=>if Xh4 ti.und then (if ((cs.drop off).take ti.sz).all AV.plain then some (.agg ((cs.drop off).take ti.sz)) else none)
  else match cs[off]? with
   | some c=>if c.plain then some c else none
   | none=>none
 | none=>none
theorem Qpz {P:Program} {w:World} {S U:Nat→Prop} {ρ:Tab} {Θ:Tys} (hΘ:TOK P Θ) {t:Nat} {cs:List AV} {off:Nat} {r:AV} {vs:List Value} {fp:List Nat} (h:Qah w S U ρ cs vs fp) (he:Qtf Θ t cs off=some r) :
  ∃ v,(part t vs.toArray off).run P w = .ok v w∧repR w S U ρ r v []:=by
 unfold Qtf at he
 split at he
 case h_2=>cases he
 rename_i ti hti
 have hti:=hΘ.get hti
 split at he
 ·rename_i hagg
  split at he
  case isFalse=>cases he
  rename_i hp
  cases he
  refine ⟨.agg ((vs.drop off).take ti.sz).toArray,?_,by simp only [repR];exact ⟨_,rfl,Qth h off ti.sz hp⟩⟩
  simp only [part,Sem.run_bind,Qlw (Qas hti),hagg,Result.andThen_ok,if_true,Qco hti,Sem.run_pure]
  simp [List.extract_toArray,List.extract_eq_take_drop]
 ·rename_i hagg
  split at he
  case h_2=>cases he
  rename_i c hc
  split at he
  case isFalse=>cases he
  rename_i hp
  cases he
  obtain ⟨v1,v,v2,f1,fc,f2,rfl,rfl,hl,_,hcr,_⟩:=Qox h hc
  have:=Qu4 hcr hp
  subst this
  have hagg':Xh4 ti.und=false:=by simpa using hagg
  refine ⟨v,?_,hcr⟩
  simp only [part,Sem.run_bind,Qlw (Qas hti),hagg',Result.andThen_ok]
  have:(v1++v :: v2)[off]? = some v:=by rw [List.getElem?_append_right (by omega),hl];simp
  simp [this]
def Qsi (Θ:Tys) (t:Nat) (x:AV) (f:Nat) : Option AV:=
 match x with
 | .agg cs=>match Θ.lookup t with
  | some ⟨_,_,.struct fs,_⟩=>match fs[f]? with
   | some fd=>Qtf Θ fd.type cs fd.offset
   | none=>none
  | _=>none
 | _=>none
theorem Qv4 {P:Program} {w:World} {S U:Nat→Prop} {ρ:Tab} {Θ:Tys} (hΘ:TOK P Θ) {t f:Nat} {x r:AV} {u:Value} {fp:List Nat} (hx:repR w S U ρ x u fp) (he:Qsi Θ t x f=some r) :
  ∃ v,(Instr.field t u f).run P w = .ok v w∧repR w S U ρ r v []:=by
 unfold Qsi at he
 split at he
 case h_2=>cases he
 rename_i cs
 split at he
 case h_2=>cases he
 rename_i sz by_ fs ze hti
 have hu:=run_underlying (P:=P) (w:=w) (Qas (hΘ.get hti))
 split at he
 case h_2=>cases he
 rename_i fd hfd
 simp only [repR] at hx
 obtain ⟨vs,rfl,hr⟩:=hx
 obtain ⟨v,hrun,hrep⟩:=Qpz hΘ hr he
 refine ⟨v,?_,hrep⟩
 simp only [Instr.field,Sem.run_bind,hu,Result.andThen_ok]
 simp [hfd,asAgg,hrun]
def Qpq (Θ:Tys) (t:Nat) (x i:AV) : Option AV:=
 match x,i,Θ.lookup t with
 | .lit (.string s),.lit (.int k i),some ⟨_,_,.string,_⟩=>if 0≤i then (match s[i.toNat]? with | some b=>some (.lit (.int .u8 b.toNat)) | none=>none) else none
 | .agg cs,.lit (.int k i),some ⟨_,_,.array n el,_⟩=>match Θ.lookup el with
  | some te=>if 0≤i then (if i<(n:Int) then Qtf Θ el cs (i.toNat * te.sz) else none) else none
  | none=>none
 | _,_,_=>none
theorem Qv2 {P:Program} {w:World} {S U:Nat→Prop} {ρ:Tab} {Θ:Tys} (hΘ:TOK P Θ) {t:Nat} {x i r:AV} {u ui:Value} {fp fi:List Nat} (hx:repR w S U ρ x u fp) (hi:repR w S U ρ i ui fi) (he:Qpq Θ t x i=some r) :
  ∃ v,(Instr.index t u ui).run P w = .ok v w∧repR w S U ρ r v []:=by
 unfold Qpq at he
 split at he
 ·rename_i s k i sz by_ ze hti
  have hu:=run_underlying (P:=P) (w:=w) (Qas (hΘ.get hti))
  split at he
  case isFalse=>cases he
  rename_i h0
  split at he
  case h_2=>cases he
  rename_i b hb
  cases he
  simp only [repR,rep] at hx hi
  obtain ⟨_,rfl⟩:=hx
  obtain ⟨_,rfl⟩:=hi
  refine ⟨_,?_,Qcs _⟩
  simp only [Instr.index,asIntOf,Sem.run_bind,Sem.run_pure,hu,Result.andThen_ok]
  simp [h0,hb]
 ·rename_i cs k i sz by_ n el ze hti
  have hu:=run_underlying (P:=P) (w:=w) (Qas (hΘ.get hti))
  split at he
  case h_2=>cases he
  rename_i te hte
  split at he
  case isFalse=>cases he
  rename_i h0
  split at he
  case isFalse=>cases he
  rename_i h1
  simp only [repR,rep] at hi
  obtain ⟨_,rfl⟩:=hi
  simp only [repR] at hx
  obtain ⟨vs,rfl,hr⟩:=hx
  obtain ⟨v,hrun,hrep⟩:=Qpz hΘ hr he
  refine ⟨v,?_,hrep⟩
  simp only [Instr.index,asIntOf,Sem.run_bind,Sem.run_pure,hu,Result.andThen_ok]
  simp [h0,h1,Qco (hΘ.get hte),hrun]
 ·cases he
def Xjr (Θ:Tys) (t:Nat) (x:AV) : Option AV:=
 match Θ.lookup t,x with
 | some ⟨_,_,.string,_⟩,.lit (.string s)=>some (.lit (.int .i64 s.size))
 | some ⟨_,_,.slice _,_⟩,.ro _ xs=>some (.lit (.int .i64 xs.length))
 | some ⟨_,_,.slice _,_⟩,.lit (.slice _ n _)=>some (.lit (.int .i64 n))
 | some ⟨_,_,.array n _,_⟩,_=>some (.lit (.int .i64 n))
 | _,_=>none
def Xcs (Θ:Tys) (s:St) (t:Nat) (x:AV) : Option AV:=
 match x with
 | .sl id _ len=>match Θ.lookup t with
  | some ⟨_,_,.slice _,_⟩=>if (s.root id).isSome then some (.lit (.int .i64 len)) else none
  | _=>none
 | x=>Xjr Θ t x
theorem Qxk {E:Env} {s:St} {a:Act} {w:World} {χ:Nat→Option Nat} {hd:Nat→Value} {Θ:Tys} (hΘ:TOK E.P Θ) (h:Qci E s a w χ hd) {t:Nat} {x r:AV} {u:Value} {fp:List Nat} (hx:repR w (Qbg χ w) (· ∈ s.us) (tab s hd) x u fp) (he:Xcs Θ s t x=some r) {ty:TypeId} :
  ∃ v,(Builtin.len_ #[t] ty #[u]).run E.P w = .ok v w∧repR w (Qbg χ w) (· ∈ s.us) (tab s hd) r v []:=by
 unfold Xcs at he
 split at he
 ·rename_i id off len
  split at he
  case h_2=>cases he
  rename_i sz by_ el ze hti
  have hu:=run_underlying (P:=E.P) (w:=w) (Qas (hΘ.get hti))
  split at he
  case isFalse=>cases he
  rename_i hsome
  cases he
  obtain ⟨R,hR⟩:=Option.isSome_iff_exists.1 hsome
  simp only [repR] at hx
  obtain ⟨_,_,hx⟩:=hx
  obtain ⟨_,⟨A,cap,rfl,_⟩,_⟩:=hx (hd id) R.xs.length R.sz (by simp [tab,hR])
  refine ⟨_,?_,Qcs _⟩
  simp [Builtin.len_,hu,goInt]
 ·unfold Xjr at he
  split at he
  ·rename_i hti _
   have hu:=run_underlying (P:=E.P) (w:=w) (Qas (hΘ.get hti))
   cases he
   simp only [repR,rep] at hx
   obtain ⟨_,rfl⟩:=hx
   refine ⟨_,?_,Qcs _⟩
   simp [Builtin.len_,hu,goInt]
  ·rename_i hti _
   have hu:=run_underlying (P:=E.P) (w:=w) (Qas (hΘ.get hti))
   cases he
   simp only [repR,rep] at hx
   obtain ⟨_,A,cap,rfl,_⟩:=hx
   refine ⟨_,?_,Qcs _⟩
   simp [Builtin.len_,hu,goInt]
  ·rename_i hti _
   have hu:=run_underlying (P:=E.P) (w:=w) (Qas (hΘ.get hti))
   cases he
   simp only [repR,rep] at hx
   obtain ⟨_,rfl⟩:=hx
   refine ⟨_,?_,Qcs _⟩
   simp [Builtin.len_,hu,goInt]
  ·rename_i hti _
   have hu:=run_underlying (P:=E.P) (w:=w) (Qas (hΘ.get hti))
   cases he
   refine ⟨_,?_,Qcs _⟩
   simp [Builtin.len_,hu,goInt]
  ·cases he
def bnd (d:Int) : Option AV→Option Int
 | none=>some d
 | some (.lit (.int _ i))=>some i
 | some _=>none
def Qrl (Θ:Tys) (s:St) (t:Nat) (x:AV) (lo hi:Option AV) : Option AV:=
  match Θ.lookup t with
  | some ⟨_,_,.slice el,_⟩=>match Θ.lookup el with
    | none=>none
    | some te=>match x with
      | .sl id off len=>match s.root id with
        | some R=>if R.sz=te.sz then (match bnd 0 lo,bnd len hi with
          | some l,some h=>if 0≤l then (if l≤h then (if h≤(len:Int) then some (.sl id (off+l.toNat) (h.toNat - l.toNat)) else none) else none) else none
          | _,_=>none) else none
        | none=>none
      | .ro sz xs=>if sz=te.sz then (match bnd 0 lo,bnd xs.length hi with
          | some l,some h=>if 0≤l then (if l≤h then (if h≤(xs.length:Int) then some (.ro sz ((xs.drop l.toNat).take (h.toNat - l.toNat))) else none) else none) else none
          | _,_=>none) else none
      | .lit (.slice none 0 0)=>match bnd 0 lo,bnd 0 hi with
          | some l,some h=>if l=0 then (if h=0 then some (.lit (.slice none 0 0)) else none) else none
          | _,_=>none
      | _=>none
  | some ⟨_,_,.string,_⟩=>match x with
    | .lit (.string z)=>match bnd 0 lo,bnd z.size hi with
      | some l,some h=>if 0≤l then (if l≤h then (if h≤(z.size:Int) then some (.lit (.string (z.extract l.toNat h.toNat))) else none) else none) else none
      | _,_=>none
    | _=>none
  | _=>none
theorem Qm4 {P:Program} {w:World} {isS:Bool} {len cap:Nat} {lo hi:Option Value} {l h:Int}
  (hl:lo=none∧l=0∨∃ k,lo=some (.int k l)) (hh:hi=none∧h=len∨∃ k,hi=some (.int k h)) (h0 : 0≤l) (h1:l≤h) (h2:h≤len) (h3:len≤cap) :
  (Instr.sliceBounds isS len cap lo hi none).run P w = .ok (l.toNat,h.toNat,cap) w:=by
 have b1 : ∀ (k:IntKind) (i:Int) (y:Nat) (code:BoundsCode),0≤i→i≤y→(Instr.sliceBound (.int k i) y code).run P w = .ok i.toNat w:=fun k i y code a b=>by
  simp [Instr.sliceBound,asIntOf,a,b]
 rcases hl with ⟨rfl,rfl⟩ | ⟨kl,rfl⟩ <;> rcases hh with ⟨rfl,rfl⟩ | ⟨kh,rfl⟩
 ·simp [Instr.sliceBounds]
 ·simp [Instr.sliceBounds,b1 _ _ _ _ (Int.le_trans h0 h1) (show h≤cap by omega)]
 ·simp [Instr.sliceBounds,b1 _ _ _ _ h0 h1]
 ·simp [Instr.sliceBounds,b1 _ _ _ _ (Int.le_trans h0 h1) (show h≤cap by omega),b1 kl l h.toNat _ h0 (by omega)]
def repO (w:World) (S U:Nat→Prop) (ρ:Tab) : Option AV→Option Value→Prop
 | none,v=>v=none
 | some x,v => ∃ u,v=some u∧repR w S U ρ x u []
theorem Qhv {w:World} {S U:Nat→Prop} {ρ:Tab} {d:Int} {x:Option AV} {v:Option Value} {l:Int} (h:repO w S U ρ x v) (hb:bnd d x=some l) : v=none∧l=d∨∃ k,v=some (.int k l):=by
 unfold bnd at hb
 split at hb
 ·cases hb;exact .inl ⟨h,rfl⟩
 ·cases hb
  obtain ⟨u,rfl,hu⟩:=h
  simp only [repR,rep] at hu
  exact .inr ⟨_,by rw [hu.2]⟩
 ·cases hb
theorem Qv7 {E:Env} {s:St} {a:Act} {w:World} {χ:Nat→Option Nat} {hd:Nat→Value} {Θ:Tys} (hΘ:TOK E.P Θ) (h:Qci E s a w χ hd) {t:Nat} {x r:AV} {u:Value} {lo hi:Option AV} {vl vh:Option Value} (hx:repR w (Qbg χ w) (· ∈ s.us) (tab s hd) x u [])
  (hlo:repO w (Qbg χ w) (· ∈ s.us) (tab s hd) lo vl) (hhi:repO w (Qbg χ w) (· ∈ s.us) (tab s hd) hi vh)
  (he:Qrl Θ s t x lo hi=some r) : ∃ v,(Instr.sliceAt t u vl vh none).run E.P w = .ok v w∧repR w (Qbg χ w) (· ∈ s.us) (tab s hd) r v []:=by
 unfold Qrl at he
 split at he
 ·rename_i sz by_ el ze hti
  have hu:=run_underlying (P:=E.P) (w:=w) (Qas (hΘ.get hti))
  split at he
  case h_1=>cases he
  rename_i te hte
  have hte:=Qco (P:=E.P) (w:=w) (hΘ.get hte)
  split at he
  ·rename_i id off len
   split at he
   case h_2=>cases he
   rename_i R hR
   split at he
   case isFalse=>cases he
   rename_i hsz
   split at he
   case h_2=>cases he
   rename_i l hh hbl hbh
   split at he
   case isFalse=>cases he
   rename_i h0
   split at he
   case isFalse=>cases he
   rename_i h1
   split at he
   case isFalse=>cases he
   rename_i h2
   cases he
   simp only [repR] at hx
   obtain ⟨_,hus,hx⟩:=hx
   obtain ⟨hle,⟨A,cap,rfl,hcap,hA0,hA⟩,hcp⟩:=hx (hd id) R.xs.length R.sz (by simp [tab,hR])
   have hb:=Qm4 (P:=E.P) (w:=w) (isS:=true) (Qhv hlo hbl) (Qhv hhi hbh) h0 h1 h2 hcap
   refine ⟨.slice (if cap=l.toNat then A else A.map (·.add (l.toNat * te.sz))) (hh.toNat - l.toNat) (cap - l.toNat),?_,?_⟩
   ·simp only [Instr.sliceAt,Instr.slice,Sem.run_bind,hu,Result.andThen_ok,hb,hte]
    rfl
   ·simp only [repR]
    refine ⟨trivial,hus,?_⟩
    intro h' n sz' hh'
    simp [tab,hR] at hh'
    obtain ⟨rfl,rfl,rfl⟩:=hh'
    have hcp:R.xs.length≤off+cap:=hcp
    refine ⟨by omega,⟨_,_,rfl,by omega,?_,?_⟩,(by show R.xs.length≤off+l.toNat+(cap - l.toNat);omega)⟩
    ·intro h00
     obtain ⟨m,hm⟩:=hA0 (by omega)
     have hl0:l.toNat=0:=by omega
     refine ⟨m,?_⟩
     rw [hm,hl0]
     simp only [Nat.zero_mul,Nat.sub_zero]
     split
     ·rfl
     ·cases A <;> simp [Addr.add]
    ·intro hpos
     obtain ⟨b,m,c,hm,rfl⟩:=hA (by omega)
     refine ⟨b,m,c,hm,?_⟩
     rw [if_neg (by omega)]
     simp [Qku,Nat.add_mul,hsz]
  ·rename_i sz' xs
   split at he
   case isFalse=>cases he
   rename_i hsz
   split at he
   case h_2=>cases he
   rename_i l hh hbl hbh
   split at he
   case isFalse=>cases he
   rename_i h0
   split at he
   case isFalse=>cases he
   rename_i h1
   split at he
   case isFalse=>cases he
   rename_i h2
   cases he
   simp only [repR,rep] at hx
   obtain ⟨_,A,cap,rfl,hcap,hx⟩:=hx
   have hb:=Qm4 (P:=E.P) (w:=w) (isS:=true) (Qhv hlo hbl) (Qhv hhi hbh) h0 h1 h2 hcap
   have hlen:((xs.drop l.toNat).take (hh.toNat - l.toNat)).length=hh.toNat - l.toNat:=by rw [List.length_take,List.length_drop];omega
   refine ⟨.slice (if cap=l.toNat then A else A.map (·.add (l.toNat * te.sz))) (hh.toNat - l.toNat) (cap - l.toNat),?_,?_⟩
   ·simp only [Instr.sliceAt,Instr.slice,Sem.run_bind,hu,Result.andThen_ok,hb,hte]
    rfl
   ·simp only [repR,rep]
    refine ⟨trivial,_,_,by rw [hlen],by rw [hlen];omega,?_⟩
    by_cases hz:hh.toNat - l.toNat=0
    ·left;rw [hz,List.take_zero]
    right
    rcases hx with rfl | ⟨b,o,vs,rfl,hS,hat,hr⟩
    ·simp at h2;omega
    rw [if_neg (by omega)]
    have hr':Qao w (Qbg χ w) (fun _=>True) (fun _=>none) sz' xs vs []:=Qi1 _ _ _ hr
    have e1:xs=xs.take l.toNat++((xs.drop l.toNat).take (hh.toNat - l.toNat)++(xs.drop l.toNat).drop (hh.toNat - l.toNat)):=by rw [List.take_append_drop,List.take_append_drop]
    have aux : ∀ (ys zs:List (List AV)) (vs:List Value),Qdt w (Qbg χ w) sz' (ys++zs) vs []→∃ v1 v2,vs=v1++v2∧v1.length=ys.length * sz'∧Qdt w (Qbg χ w) sz' ys v1 []∧Qdt w (Qbg χ w) sz' zs v2 []:=by
     intro ys
     induction ys with
     | nil=>intro zs vs hr;exact ⟨[],vs,rfl,by simp,by simp [Qdt],hr⟩
     | cons y ys ih =>
      intro zs vs hr
      simp only [List.cons_append,Qdt] at hr
      obtain ⟨us,us',f1,f2,rfl,hf,hl,h1c,k1,k2⟩:=hr
      obtain ⟨rfl,rfl⟩:=List.append_eq_nil_iff.1 hf.symm
      obtain ⟨v1,v2,rfl,hl1,q1,q2⟩:=ih zs us' k2
      refine ⟨us++v1,v2,by simp,by simp [hl,hl1,Nat.add_mul,Nat.add_comm],?_,q2⟩
      simp only [Qdt]
      exact ⟨us,v1,[],[],rfl,rfl,hl,h1c,k1,q1⟩
    rw [e1] at hr
    obtain ⟨v1,v2,rfl,hl1,q1,q2⟩:=aux _ _ _ hr
    obtain ⟨v3,v4,rfl,hl3,q3,q4⟩:=aux _ _ _ q2
    refine ⟨b,o+l.toNat * te.sz,v3,by simp [Qku],hS,?_,q3⟩
    intro k v hk
    have hkl:k<v3.length:=(List.getElem?_eq_some_iff.1 hk).1
    rw [List.length_take,Nat.min_eq_left (by omega),hsz] at hl1
    have:=hat (l.toNat * te.sz+k) v (by rw [List.getElem?_append_right (by omega),show l.toNat * te.sz+k - v1.length=k by omega,List.getElem?_append_left hkl];exact hk)
    rwa [← Nat.add_assoc] at this
  ·split at he
   case h_2=>cases he
   rename_i l hh hbl hbh
   split at he
   case isFalse=>cases he
   rename_i h0
   split at he
   case isFalse=>cases he
   rename_i h1
   cases he
   subst h0;subst h1
   simp only [repR,rep] at hx
   obtain rfl:=hx.2
   have hb:=Qm4 (P:=E.P) (w:=w) (isS:=true) (len:=0) (cap:=0) (Qhv hlo hbl) (Qhv hhi hbh) (Int.le_refl _) (Int.le_refl _) (Int.le_refl _) (Nat.le_refl _)
   refine ⟨.slice none 0 0,?_,Qcs _⟩
   simp only [Instr.sliceAt,Instr.slice,Sem.run_bind,hu,Result.andThen_ok,hb,hte]
   rfl
  ·cases he
 ·rename_i sz by_ ze hti
  have hu:=run_underlying (P:=E.P) (w:=w) (Qas (hΘ.get hti))
  split at he
  case h_2=>cases he
  rename_i z
  split at he
  case h_2=>cases he
  rename_i l hh hbl hbh
  split at he
  case isFalse=>cases he
  rename_i h0
  split at he
  case isFalse=>cases he
  rename_i h1
  split at he
  case isFalse=>cases he
  rename_i h2
  cases he
  simp only [repR,rep] at hx
  obtain ⟨_,rfl⟩:=hx
  have hb:=Qm4 (P:=E.P) (w:=w) (isS:=false) (Qhv hlo hbl) (Qhv hhi hbh) h0 h1 h2 (Nat.le_refl _)
  refine ⟨_,?_,Qcs _⟩
  simp only [Instr.sliceAt,Instr.slice,Sem.run_bind,hu,Result.andThen_ok]
  simp [hb]
 ·cases he
end Go.T
