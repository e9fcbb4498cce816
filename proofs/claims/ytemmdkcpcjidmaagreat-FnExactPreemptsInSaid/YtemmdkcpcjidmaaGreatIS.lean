/- Plain facts for FnExactPreemptsIn; no condition. -/

import Derived.Test.YtemmdkcpcjidmaaGreatSS
set_option linter.unusedVariables false
set_option linter.unusedSimpArgs false
namespace Go.Proofs.YtemmdkcpcjidmaaGreat
open Go Go.T
theorem Xpc {p:Qaf} {s:Qa1} (h:RG p s) : SB s:=by
 obtain ⟨a,b,c,d⟩:=h.sc
 exact ⟨by omega,by omega,by omega,fun t ht=>by have:=d t ht;omega,h.cf,fun t ht=>(h.th t ht).fl⟩
noncomputable def isG (p:Qaf) (r:Qbi) : Bool:=decide (r.Trace.length≤200) && ((decide (r.Picks.length≤200) && r.Picks.all (fun x=>inr x 0 999)) && Qub ((Qis p r.Picks r.Picks.length).getD Xew) r)
structure IsH (p:Qaf) (r:Qbi) : Prop where
 hv : ∀ q∈p.Routines,∀ o∈q,o.V<18446744073709551616
 ht:r.Trace.length≤1048576
 hk:r.Picks.length≤1048576
 hb:SB r.End
theorem Xgf {p:Qaf} {r:Qbi} (hg:Qjy p=true) (H:IsH p r) (hp:(decide (r.Picks.length≤200) && r.Picks.all (fun x=>inr x 0 999))=true) :
  ∃ (R:Qbi) (s:Qa1),Qis p r.Picks r.Picks.length=some R∧Qgu p r.Picks r.Picks.length=some R∧R.Trace.length≤200∧R.Picks.length≤200∧RG p R.End∧Qg6 p=some s∧Qg5 p=some s∧Xhz p s R.Picks R.Trace R.End:=by
 simp only [Bool.and_eq_true,decide_eq_true_eq,List.all_eq_true] at hp
 exact Xbo hg H.hv (m:=r.Picks.length) hp.1 (fun x hx=>(Qcm.1 (hp.2 x hx)).1) hp.1
theorem Xm4 {p:Qaf} {r:Qbi} (hg:Qjy p=true) (H:IsH p r) : Qog p r=some (isG p r):=by
 rw [Qog,Xlo H.hk]
 unfold isG
 by_cases htl:r.Trace.length≤200
 case neg =>
  have c1:decide ((r.Trace.length:Int)≤200)=false:=by simp;omega
  simp [c1,htl]
 have c1:decide ((r.Trace.length:Int)≤200)=true:=by simp;omega
 have c2:decide (r.Trace.length≤200)=true:=by simpa using htl
 simp only [c1,c2,if_true,Option.bind_some,Bool.true_and]
 cases hp:decide (r.Picks.length≤200) && r.Picks.all (fun x=>inr x 0 999)
 ·simp
 obtain ⟨R,s,r1,r2,r3,r4,r5,_⟩:=Xgf hg H hp
 have eR:(Qbi.mk R.Code R.Trace R.Picks (Qa1.mk R.End.Threads R.End.Cells R.End.Owner R.End.Fault))=R:=rfl
 simp only [r1,Option.bind_some,eR,s_run (a:=R) (b:=r) (by omega) (by omega) (Xpc r5) H.hb,if_true,Option.getD_some,Bool.true_and]
theorem Xiw {p:Qaf} {r:Qbi} (hg:Qjy p=true) (H:IsH p r) (htl:r.Trace.length≤200) (hp:(decide (r.Picks.length≤200) && r.Picks.all (fun x=>inr x 0 999))=true) : Qi1 p r=some (isG p r,true):=by
 obtain ⟨R,s,r1,r2,r3,r4,r5,_⟩:=Xgf hg H hp
 have eR:(Qbi.mk R.Code R.Trace R.Picks (Qa1.mk R.End.Threads R.End.Cells R.End.Owner R.End.Fault))=R:=rfl
 have c2:decide (r.Trace.length≤200)=true:=by simpa using htl
 unfold isG
 simp only [Qi1,r1,r2,Option.bind_some,eR,i_run (a:=R) (b:=r) (by omega) (by omega) (Xpc r5),c2,hp,Option.getD_some,Bool.true_and]
theorem Xil {p:Qaf} {r:Qbi} (hip:Qft p=some (Qjy p)) (H:IsH p r) :
  ∃ o:Bool,Qly p r=some (Qjy p && isG p r,o)∧((Qjy p && isG p r)=true→o=true)∧(o=(Qjy p && (decide (r.Trace.length≤200) && (decide (r.Picks.length≤200) && r.Picks.all (fun x=>inr x 0 999))))):=by
 rw [Qly,hip]
 cases hg:Qjy p
 ·exact ⟨false,by simp,by simp,by simp⟩
 simp only [Option.bind_some,Xjc H.hk,Bool.not_true,Bool.false_eq_true,if_false,Bool.true_and]
 by_cases htl:r.Trace.length≤200
 case neg =>
  have c1:decide ((r.Trace.length:Int) > 200)=true:=by simp;omega
  have e:isG p r=false:=by unfold isG;simp [htl]
  exact ⟨false,by simp [c1,e],by simp [e],by simp [htl]⟩
 have c1:decide ((r.Trace.length:Int) > 200)=false:=by simp;omega
 simp only [c1,Bool.false_eq_true,if_false]
 cases hp:decide (r.Picks.length≤200) && r.Picks.all (fun x=>inr x 0 999)
 ·have e:isG p r=false:=by unfold isG;rw [hp];simp
  exact ⟨false,by simp [e],by simp [e],by simp⟩
 exact ⟨true,by simp [Xiw hg H htl hp],fun _=>rfl,by simp [htl]⟩
theorem Xmw {p:Qaf} {r:Qbi} (hip:Qft p=some (Qjy p)) (H:IsH p r) : Qmf p r=some (Qjy p && isG p r):=by
 obtain ⟨o,e2,e3,_⟩:=Xil hip H
 rw [Qmf,e2]
 cases h:Qjy p && isG p r
 ·simp
 ·simp [e3 h]
theorem Xlp {p:Qaf} {r:Qbi} (hg:Qjy p=true) (H:IsH p r) (h:isG p r=true) : ∃ (R:Qbi) (s:Qa1),Xhz p s R.Picks R.Trace R.End∧Qg6 p=some s∧Qg5 p=some s∧Qub R r=true∧RG p R.End∧R.Trace.length≤200:=by
 have h0:=h
 unfold isG at h
 rw [Bool.and_eq_true,Bool.and_eq_true] at h
 obtain ⟨_,hp,hs⟩:=h
 obtain ⟨R,s,r1,r2,r3,r4,r5,r6,r7,r8⟩:=Xgf hg H hp
 rw [r1] at hs
 exact ⟨R,s,r8,r6,r7,hs,r5,r3⟩
end Go.Proofs.YtemmdkcpcjidmaaGreat
