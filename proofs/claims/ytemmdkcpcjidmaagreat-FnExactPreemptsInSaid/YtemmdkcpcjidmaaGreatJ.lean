/- The program's PreemptsIn returns what the reference's returns, for all arguments; no condition. -/

import Derived.Test.YtemmdkcpcjidmaaGreatTW
import Derived.Test.YtemmdkcpcjidmaaGreatPRb
import Derived.Test.YtemmdkcpcjidmaaGreatRows
import Derived.WalkKit
import Derived.ProofKit
import Derived.OpenShut
import Derived.ShutString
import Derived.ChangeOld
import Derived.Below
set_option linter.unusedVariables false
namespace Go.Proofs.YtemmdkcpcjidmaaGreat
open Go Go.T
open Go.ChangeShapes Go.WideShapes Go.ChangeAt Go.RowKit
open Go.ChangeMaps (open_string shut_string)
theorem Xjn:ownKnob Tryz.prog.godebug=none:=by kernel_rfl
theorem Xce:laidOutB Tryz.prog=true:=by kernel_rfl
theorem Qa5 {a b:Bool} (h:a=true) (k:b=true) : (a && b)=true:=by rw [h,k];rfl
theorem Qo9:(Rows.fnExactPreemptsInRow.wf (OpenSpec.ofChange Rows.fnExactPreemptsInSpec) : Bool)=true:=by kernel_rfl
theorem Qoh:(laidOutB Tryz.prog:Bool)=true:=by kernel_rfl
theorem Qom:(mapsRowed Tryz.prog:Bool)=true:=by kernel_rfl
theorem Qov:(Tryz.f5.params.all (Tryz.prog.readableRec ·) : Bool)=true:=by kernel_rfl
theorem Qol:(namedTie Tryz.prog Rows.fnExactPreemptsInRow.named Rows.fnExactPreemptsInSpec.vars:Bool)=true:=by kernel_rfl
theorem Qoq:((Rows.fnExactPreemptsInRow.stops == []) : Bool)=true:=by kernel_rfl
theorem Qo8:((Tryz.prog.stops == []) : Bool)=true:=by kernel_rfl
theorem Qow:((Rows.fnExactPreemptsInRow.knobs == []) : Bool)=true:=by kernel_rfl
theorem Qoz:((Tryz.prog.stopKnobs == []) : Bool)=true:=by kernel_rfl
theorem Qp6:((Rows.fnExactPreemptsInRow.inPlace == Tryz.prog.inPlace 5) : Bool)=true:=by kernel_rfl
theorem Qo0:((Rows.fnExactPreemptsInRow.unfollowed == Tryz.prog.unfollowed 5) : Bool)=true:=by kernel_rfl
theorem Qnd:((Rows.fnExactPreemptsInRow.recurses == Tryz.prog.recurses 5) : Bool)=true:=by kernel_rfl
theorem Qnx:((Rows.fnExactPreemptsInRow.named == Tryz.prog.varsNamed 5) : Bool)=true:=by kernel_rfl
theorem Qnj:((Rows.fnExactPreemptsInRow.maps == (Tryz.f5.params.toList++Rows.fnExactPreemptsInSpec.plain.varTypes Tryz.prog).any (Tryz.prog.mapsRec ·)) : Bool)=true:=by kernel_rfl
theorem Qnn:((Rows.fnExactPreemptsInRow.ifaces == (Tryz.f5.params.toList++Rows.fnExactPreemptsInSpec.plain.varTypes Tryz.prog).any (Tryz.prog.ifacesRec ·)) : Bool)=true:=by kernel_rfl
theorem Qny:((Rows.fnExactPreemptsInRow.mapsOut == Tryz.prog.mapsAmong Tryz.f5.resultTypes.toList) : Bool)=true:=by kernel_rfl
theorem Qns:((Rows.fnExactPreemptsInRow.loops == (Tryz.f5.params.toList++Rows.fnExactPreemptsInSpec.plain.varTypes Tryz.prog).any (Tryz.prog.loopsFrom ·)) : Bool)=true:=by kernel_rfl
theorem Qno:((Rows.fnExactPreemptsInRow.wideKeys == (Tryz.f5.params.toList++Rows.fnExactPreemptsInSpec.plain.varTypes Tryz.prog++Tryz.f5.resultTypes.toList).any (Tryz.prog.wideKeysFrom ·)) : Bool)=true:=by kernel_rfl
theorem Qnv:(Rows.fnExactPreemptsInSpec.vars.all (Tryz.prog.varReadable ·) : Bool)=true:=by kernel_rfl
theorem Qnh:(Tryz.f5.resultTypes.all (fun t=>Tryz.prog.readableRec t && decide (t<Tryz.prog.types.size)) : Bool)=true:=by kernel_rfl
theorem Qnb:((Rows.fnExactPreemptsInRow.ifacesOut == Tryz.f5.resultTypes.toList.any (Tryz.prog.ifacesRec ·)) : Bool)=true:=by kernel_rfl
theorem Qnl:((Rows.fnExactPreemptsInRow.loopsOut == Tryz.f5.resultTypes.toList.any (Tryz.prog.loopsFrom ·)) : Bool)=true:=by kernel_rfl
theorem Qnm:((Rows.fnExactPreemptsInRow.plainKeys == Tryz.prog.plainKeys) : Bool)=true:=by kernel_rfl
theorem Qng:(Rows.fnExactPreemptsInRow.shortTexts.isNone:Bool)=true:=by kernel_rfl
theorem Qnr:(Tryz.prog.stopsHeard:Bool)=true:=by kernel_rfl
theorem Qnu:(Tryz.prog.mayEnter:Bool)=true:=by kernel_rfl
theorem Qnt:((Rows.fnExactPreemptsInRow.lifted == Tryz.prog.liftsFinal) : Bool)=true:=by kernel_rfl
theorem Qne:((Tryz.prog.make == some Rows.fnExactPreemptsInRow.make) : Bool)=true:=by kernel_rfl
theorem Qnc:((Rows.fnExactPreemptsInRow.kinds == (if Rows.fnExactPreemptsInRow.domain.isEmpty then [] else Tryz.f5.params.toList.map fun t=>match Tryz.prog.underlying t with | some (.int k)=>some k | _=>none)) : Bool)=true:=by kernel_rfl
theorem Qni:((Rows.fnExactPreemptsInRow.pinned == Rows.fnExactPreemptsInRow.pinnedBy) : Bool)=true:=by kernel_rfl
theorem Qnq:((Rows.fnExactPreemptsInRow.veiled == (Tryz.f5.params.toList++Rows.fnExactPreemptsInSpec.plain.varTypes Tryz.prog++Tryz.f5.resultTypes.toList).any (Tryz.prog.veiledRec ·)) : Bool)=true:=by kernel_rfl
theorem Qna:(Rows.fnExactPreemptsInRow.veiledFits Tryz.prog Tryz.f5.params.toList (Tryz.f5.params.toList++Rows.fnExactPreemptsInSpec.plain.varTypes Tryz.prog++Tryz.f5.resultTypes.toList) : Bool)=true:=by kernel_rfl
set_option maxRecDepth 100000 in
theorem Qmu:joinedFacts Tryz.prog 5 Tryz.f5 Rows.fnExactPreemptsInSpec Rows.fnExactPreemptsInRow=true:=by unfold joinedFacts;exact (Qa5 (Qa5 (Qa5 (Qa5 (Qa5 (Qa5 (Qa5 (Qa5 (Qa5 (Qa5 (Qa5 (Qa5 (Qa5 (Qa5 (Qa5 (Qa5 (Qa5 (Qa5 (Qa5 (Qa5 (Qa5 (Qa5 (Qa5 (Qa5 (Qa5 (Qa5 (Qa5 (Qa5 (Qa5 (Qa5 (Qa5 Qo9 Qoh) Qom) Qov) Qol) Qoq) Qo8) Qow) Qoz) Qp6) Qo0) Qnd) Qnx) Qnj) Qnn) Qny) Qns) Qno) Qnv) Qnh) Qnb) Qnl) Qnm) Qng) Qnr) Qnu) Qnt) Qne) Qnc) Qni) Qnq) Qna)
theorem op3 {H:Type} {enc:TypeId×Value→H} {W:World}:Qk2 enc Tryz.prog W 3 o3 (fun x=>(Lit.int .i64 x).wf=true):=(Xhf (Qaq ty3)).map id (fun _=>rfl) (fun _ h=>h)
theorem Xpf {H:Type} {enc:TypeId×Value→H} {W:World}:Qk2 enc Tryz.prog W 132 Qae (fun x=>x<18446744073709551616):=(Xaw (Qaq Qqo)).map id (fun _=>rfl) (fun _ h=>h)
instance:Inhabited GOp:=⟨⟨0,0,0,0⟩⟩
theorem op200 {H:Type} {enc:TypeId×Value→H} {W:World}:Qk2 enc Tryz.prog W 200 Qw6 (fun x=>Xac x):=by
 have h:=Qhq (enc:=enc) (w:=W) (Qaq Xo5) (m:=4) (by kernel_rfl) (L:=[(0,3),(1,3),(2,3),(3,132)]) rfl (Qb5 (sz:=1) (by kernel_rfl) rfl op3 (Qb5 (sz:=1) (by kernel_rfl) rfl op3 (Qb5 (sz:=1) (by kernel_rfl) rfl op3 (Qb5 (sz:=1) (by kernel_rfl) rfl Xpf Qkb))))
 exact h.map (fun p=>(⟨p.1,p.2.1,p.2.2.1,p.2.2.2.1⟩ : GOp)) (fun _=>rfl) (fun p h=>⟨h.1,h.2.1,h.2.2.1,h.2.2.2.1⟩)
theorem op151 {H:Type} {enc:TypeId×Value→H} {W:World}:Qk2 enc Tryz.prog W 151 Qss (fun x=>x.length≤9223372036854775807∧∀ y0∈x,Xac y0):=(Qiv (Qaq Xob) (sz:=4) (by kernel_rfl) (by decide) op200).map id (fun _=>rfl) (fun _ h=>h)
theorem op22 {H:Type} {enc:TypeId×Value→H} {W:World}:Qk2 enc Tryz.prog W 22 r22 (fun x=>x.length≤9223372036854775807∧∀ y0∈x,y0.length≤9223372036854775807∧∀ y1∈y0,Xac y1):=(Qiv (Qaq ty22) (sz:=1) (by kernel_rfl) (by decide) op151).map id (fun _=>rfl) (fun _ h=>h)
instance:Inhabited Qaf:=⟨⟨0,0,0,[]⟩⟩
theorem op24 {H:Type} {enc:TypeId×Value→H} {W:World}:Qk2 enc Tryz.prog W 24 r24 (fun x=>Qqk x):=by
 have h:=Qhq (enc:=enc) (w:=W) (Qaq ty24) (m:=4) (by kernel_rfl) (L:=[(0,3),(1,3),(2,3),(3,22)]) rfl (Qb5 (sz:=1) (by kernel_rfl) rfl op3 (Qb5 (sz:=1) (by kernel_rfl) rfl op3 (Qb5 (sz:=1) (by kernel_rfl) rfl op3 (Qb5 (sz:=1) (by kernel_rfl) rfl op22 Qkb))))
 exact h.map (fun p=>(⟨p.1,p.2.1,p.2.2.1,p.2.2.2.1⟩ : Qaf)) (fun _=>rfl) (fun p h=>⟨h.1,h.2.1,h.2.2.1,h.2.2.2.1⟩)
instance:Inhabited Qaa:=⟨⟨0,0,0,0,0⟩⟩
theorem op161 {H:Type} {enc:TypeId×Value→H} {W:World}:Qk2 enc Tryz.prog W 161 Qvf (fun x=>Qyv x):=by
 have h:=Qhq (enc:=enc) (w:=W) (Qaq Xns) (m:=5) (by kernel_rfl) (L:=[(0,3),(1,3),(2,3),(3,3),(4,3)]) rfl (Qb5 (sz:=1) (by kernel_rfl) rfl op3 (Qb5 (sz:=1) (by kernel_rfl) rfl op3 (Qb5 (sz:=1) (by kernel_rfl) rfl op3 (Qb5 (sz:=1) (by kernel_rfl) rfl op3 (Qb5 (sz:=1) (by kernel_rfl) rfl op3 Qkb)))))
 exact h.map (fun p=>(⟨p.1,p.2.1,p.2.2.1,p.2.2.2.1,p.2.2.2.2.1⟩ : Qaa)) (fun _=>rfl) (fun p h=>⟨h.1,h.2.1,h.2.2.1,h.2.2.2.1,h.2.2.2.2.1⟩)
theorem op25 {H:Type} {enc:TypeId×Value→H} {W:World}:Qk2 enc Tryz.prog W 25 r25 (fun x=>x.length≤9223372036854775807∧∀ y0∈x,Qyv y0):=(Qiv (Qaq ty25) (sz:=5) (by kernel_rfl) (by decide) op161).map id (fun _=>rfl) (fun _ h=>h)
theorem op26 {H:Type} {enc:TypeId×Value→H} {W:World}:Qk2 enc Tryz.prog W 26 r26 (fun x=>x.length≤9223372036854775807∧∀ y0∈x,(Lit.int .i64 y0).wf=true):=(Qiv (Qaq ty26) (sz:=1) (by kernel_rfl) (by decide) op3).map id (fun _=>rfl) (fun _ h=>h)
theorem op28 {H:Type} {enc:TypeId×Value→H} {W:World}:Qk2 enc Tryz.prog W 28 r28 (fun x=>x.length≤9223372036854775807∧∀ y0∈x,y0<18446744073709551616):=(Qiv (Qaq ty28) (sz:=1) (by kernel_rfl) (by decide) Xpf).map id (fun _=>rfl) (fun _ h=>h)
instance:Inhabited Qa0:=⟨⟨0,0,0,0,0,[]⟩⟩
theorem op198 {H:Type} {enc:TypeId×Value→H} {W:World}:Qk2 enc Tryz.prog W 198 Qpv (fun x=>Qp7 x):=by
 have h:=Qhq (enc:=enc) (w:=W) (Qaq Xpl) (m:=6) (by kernel_rfl) (L:=[(0,3),(1,3),(2,3),(3,3),(4,3),(5,28)]) rfl (Qb5 (sz:=1) (by kernel_rfl) rfl op3 (Qb5 (sz:=1) (by kernel_rfl) rfl op3 (Qb5 (sz:=1) (by kernel_rfl) rfl op3 (Qb5 (sz:=1) (by kernel_rfl) rfl op3 (Qb5 (sz:=1) (by kernel_rfl) rfl op3 (Qb5 (sz:=1) (by kernel_rfl) rfl op28 Qkb))))))
 exact h.map (fun p=>(⟨p.1,p.2.1,p.2.2.1,p.2.2.2.1,p.2.2.2.2.1,p.2.2.2.2.2.1⟩ : Qa0)) (fun _=>rfl) (fun p h=>⟨h.1,h.2.1,h.2.2.1,h.2.2.2.1,h.2.2.2.2.1,h.2.2.2.2.2.1⟩)
theorem op27 {H:Type} {enc:TypeId×Value→H} {W:World}:Qk2 enc Tryz.prog W 27 r27 (fun x=>x.length≤9223372036854775807∧∀ y0∈x,Qp7 y0):=(Qiv (Qaq ty27) (sz:=6) (by kernel_rfl) (by decide) op198).map id (fun _=>rfl) (fun _ h=>h)
instance:Inhabited Qa1:=⟨⟨[],[],[],0⟩⟩
theorem op30 {H:Type} {enc:TypeId×Value→H} {W:World}:Qk2 enc Tryz.prog W 30 r30 (fun x=>Qtw x):=by
 have h:=Qhq (enc:=enc) (w:=W) (Qaq ty30) (m:=4) (by kernel_rfl) (L:=[(0,27),(1,28),(2,26),(3,3)]) rfl (Qb5 (sz:=1) (by kernel_rfl) rfl op27 (Qb5 (sz:=1) (by kernel_rfl) rfl op28 (Qb5 (sz:=1) (by kernel_rfl) rfl op26 (Qb5 (sz:=1) (by kernel_rfl) rfl op3 Qkb))))
 exact h.map (fun p=>(⟨p.1,p.2.1,p.2.2.1,p.2.2.2.1⟩ : Qa1)) (fun _=>rfl) (fun p h=>⟨h.1,h.2.1,h.2.2.1,h.2.2.2.1⟩)
instance:Inhabited Qbi:=⟨⟨0,[],[],default⟩⟩
theorem op32 {H:Type} {enc:TypeId×Value→H} {W:World}:Qk2 enc Tryz.prog W 32 r32 (fun x=>Qzk x):=by
 have h:=Qhq (enc:=enc) (w:=W) (Qaq ty32) (m:=7) (by kernel_rfl) (L:=[(0,3),(1,25),(2,26),(3,30)]) rfl (Qb5 (sz:=1) (by kernel_rfl) rfl op3 (Qb5 (sz:=1) (by kernel_rfl) rfl op25 (Qb5 (sz:=1) (by kernel_rfl) rfl op26 (Qb5 (sz:=4) (by kernel_rfl) rfl op30 Qkb))))
 exact h.map (fun p=>(⟨p.1,p.2.1,p.2.2.1,p.2.2.2.1⟩ : Qbi)) (fun _=>rfl) (fun p h=>⟨h.1,h.2.1,h.2.2.1,h.2.2.2.1⟩)
set_option maxRecDepth 100000 in
theorem lifted (os:Os) (started:os.Started) (H:Type) (enc:TypeId×Value→H) :
  ReturnsInHanded {} Tryz.checked os 5 .any (Rows.fnExactPreemptsInSpec.pre6 enc Tryz.prog Tryz.f5 Rows.fnExactPreemptsInRow.domain false) (Rows.fnExactPreemptsInSpec.post enc Tryz.prog Tryz.f5 false true false false):=by
 refine returnsInHanded_of_change (C:=Tryz.checked) Xjn started (by kernel_rfl) Tryz.func5
  (ChangeSpec.witness6 (enc:=enc) (C:=Tryz.checked) false ⟨#[], #[.agg #[.int .i64 0,.int .i64 0,.int .i64 0,.slice none 0 0],.agg #[.int .i64 0,.slice none 0 0,.slice none 0 0,.slice none 0 0,.slice none 0 0,.slice none 0 0,.int .i64 0]],[]⟩ 8 (by kernel_rfl) (by kernel_rfl) (by kernel_rfl) (by kernel_rfl)) ?_
 intro W base args ds gs before hval0 hW hcnd _
 have hval : ∀ (j:Nat) t v,Tryz.f5.params[j]? = some t→args[j]? = some v→Value.okWide Tryz.prog W .any base t v:=hval0
 have hW':=hW
 obtain ⟨p,q,hA0,hV,rfl,hfz,hnd⟩:=hW
 have hA:DataW.TrodAll enc Tryz.prog W 0 (fun _=>true) true Tryz.f5.params.toList args.toList ds p:=hA0
 rw [Tryz.params5] at hA hval
 obtain ⟨v0,vs0,d0,ds0,p0,q0,hargs,rfl,rfl,h0,r0⟩:=trodAll_cons hA
 obtain ⟨v1,vs1,d1,ds1,p1,q1,rfl,rfl,rfl,h1,r1⟩:=trodAll_cons r0
 obtain ⟨rfl,rfl,rfl⟩:=trodAll_nil r1
 obtain rfl:args = #[v0,v1]:=by cases args;simp_all
 obtain ⟨rfl,rfl⟩:=trodVars_none hV
 have k0:=h0
 have lt0 : ∀ x∈p0,x.block<W.heap.size:=by obtain ⟨m,hm⟩:=k0;exact DataW.trod_lt m _ _ _ hm
 have k1:=h1
 have lt1 : ∀ x∈p1,x.block<W.heap.size:=by obtain ⟨m,hm⟩:=k1;exact DataW.trod_lt m _ _ _ hm
 obtain ⟨x0,g0,rep0⟩:=Xcq op24 h0 (okWide_struct (Qaq ty24) (hval 0 _ v0 rfl rfl))
 obtain ⟨x1,g1,rep1⟩:=Xcq op32 h1 (okWide_struct (Qaq ty32) (hval 1 _ v1 rfl rfl))
 have hm:=(Qme (Qwi x0 x1 g0 g1)).2 W (fun b=>b<W.heap.size) [v0,v1] (by simp only [Qfo];exact ⟨_,_,[],[],rfl,rfl,rep0,⟨_,[],[],[],rfl,rfl,rep1,rfl,rfl⟩⟩) (fun _ h=>h)
 clear hA0 hval0
 refine hm.mono fun e W' ⟨v,fp,he,bel,_,hr,_⟩=>?_
 subst he
 obtain rfl:v = .bool true:=by simp only [rep] at hr;exact hr.2
 exact ⟨_,rfl,_,_,_,[],_,[],hW',trodAll_mk1 (shut_bool (Qaq ty4) _),(trodAll_cons_mk (Below.trod Xce (by kernel_rfl) (of_decide_eq_true (by kernel_rfl)) k0 bel lt0) (trodAll_cons_mk (Below.trod Xce (by kernel_rfl) (of_decide_eq_true (by kernel_rfl)) k1 bel lt1) trodAll_mk0)),rfl,bel.frame _,fun h=>by cases h⟩
theorem named:Tryz.prog.funcNamed Rows.fnExactPreemptsInRow.func=some 5:=by kernel_rfl
theorem fnExactPreemptsIn_proved:Rows.FnExactPreemptsInSaid:=
 OpenClaim.holds_of_wide 5 Tryz.f5 rfl rfl rfl rfl rfl rfl rfl ⟨rfl,rfl,rfl,rfl,rfl⟩ rfl rfl rfl rfl rfl named Tryz.func5 Qmu
  (of_decide_eq_true (by kernel_rfl)) (by unfold Func.isWrapper;first | (rw [if_pos (by decide +kernel)];kernel_rfl) | (rw [if_neg (by decide +kernel)];exact ⟨rfl,rfl⟩))
  (fun os started H enc _=>lifted os started H enc)
end Go.Proofs.YtemmdkcpcjidmaaGreat
