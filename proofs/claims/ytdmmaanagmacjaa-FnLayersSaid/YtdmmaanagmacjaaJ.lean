/- The program's FnLayers returns what the reference's returns, for all arguments; no condition. -/

import Derived.Test.YtdmmaanagmacjaaTW
import Derived.Test.YtdmmaanagmacjaaFLb
import Derived.Test.YtdmmaanagmacjaaRows
import Derived.WalkKit
import Derived.ProofKit
import Derived.OpenShut
import Derived.ShutString
import Derived.ChangeOld
import Derived.Below
set_option linter.unusedVariables false
namespace Go.Proofs.Ytdmmaanagmacjaa
open Go Go.T
open Go.ChangeShapes Go.WideShapes Go.ChangeAt Go.RowKit
open Go.ChangeMaps (open_string shut_string)
theorem Xg3:ownKnob Try.prog.godebug=none:=by kernel_rfl
theorem Qzh:laidOutB Try.prog=true:=by kernel_rfl
theorem Qac {a b:Bool} (h:a=true) (k:b=true) : (a && b)=true:=by rw [h,k];rfl
theorem Qxy:(Rows.fnLayersRow.wf (OpenSpec.ofChange Rows.fnLayersSpec) : Bool)=true:=by kernel_rfl
theorem Qwc:(laidOutB Try.prog:Bool)=true:=by kernel_rfl
theorem Qxs:(mapsRowed Try.prog:Bool)=true:=by kernel_rfl
theorem Qxp:(Try.f6.params.all (Try.prog.readableRec ·) : Bool)=true:=by kernel_rfl
theorem Qwj:(namedTie Try.prog Rows.fnLayersRow.named Rows.fnLayersSpec.vars:Bool)=true:=by kernel_rfl
theorem Qy1:((Rows.fnLayersRow.stops == []) : Bool)=true:=by kernel_rfl
theorem Qxt:((Try.prog.stops == []) : Bool)=true:=by kernel_rfl
theorem Qxu:((Rows.fnLayersRow.knobs == []) : Bool)=true:=by kernel_rfl
theorem Qxh:((Try.prog.stopKnobs == []) : Bool)=true:=by kernel_rfl
theorem Qwq:((Rows.fnLayersRow.inPlace == Try.prog.inPlace 6) : Bool)=true:=by kernel_rfl
theorem Qu9:((Rows.fnLayersRow.unfollowed == Try.prog.unfollowed 6) : Bool)=true:=by kernel_rfl
theorem Quj:((Rows.fnLayersRow.recurses == Try.prog.recurses 6) : Bool)=true:=by kernel_rfl
theorem Qw3:((Rows.fnLayersRow.named == Try.prog.varsNamed 6) : Bool)=true:=by kernel_rfl
theorem Qw2:((Rows.fnLayersRow.maps == (Try.f6.params.toList++Rows.fnLayersSpec.plain.varTypes Try.prog).any (Try.prog.mapsRec ·)) : Bool)=true:=by kernel_rfl
theorem Qvz:((Rows.fnLayersRow.ifaces == (Try.f6.params.toList++Rows.fnLayersSpec.plain.varTypes Try.prog).any (Try.prog.ifacesRec ·)) : Bool)=true:=by kernel_rfl
theorem Qux:((Rows.fnLayersRow.mapsOut == Try.prog.mapsAmong Try.f6.resultTypes.toList) : Bool)=true:=by kernel_rfl
theorem Qvx:((Rows.fnLayersRow.loops == (Try.f6.params.toList++Rows.fnLayersSpec.plain.varTypes Try.prog).any (Try.prog.loopsFrom ·)) : Bool)=true:=by kernel_rfl
theorem Qvb:((Rows.fnLayersRow.wideKeys == (Try.f6.params.toList++Rows.fnLayersSpec.plain.varTypes Try.prog++Try.f6.resultTypes.toList).any (Try.prog.wideKeysFrom ·)) : Bool)=true:=by kernel_rfl
theorem Quq:(Rows.fnLayersSpec.vars.all (Try.prog.varReadable ·) : Bool)=true:=by kernel_rfl
theorem Qv1:(Try.f6.resultTypes.all (fun t=>Try.prog.readableRec t && decide (t<Try.prog.types.size)) : Bool)=true:=by kernel_rfl
theorem Qva:((Rows.fnLayersRow.ifacesOut == Try.f6.resultTypes.toList.any (Try.prog.ifacesRec ·)) : Bool)=true:=by kernel_rfl
theorem Qua:((Rows.fnLayersRow.loopsOut == Try.f6.resultTypes.toList.any (Try.prog.loopsFrom ·)) : Bool)=true:=by kernel_rfl
theorem Qvf:((Rows.fnLayersRow.plainKeys == Try.prog.plainKeys) : Bool)=true:=by kernel_rfl
theorem Qub:(Rows.fnLayersRow.shortTexts.isNone:Bool)=true:=by kernel_rfl
theorem Quz:(Try.prog.stopsHeard:Bool)=true:=by kernel_rfl
theorem Qw1:(Try.prog.mayEnter:Bool)=true:=by kernel_rfl
theorem Qvj:((Rows.fnLayersRow.lifted == Try.prog.liftsFinal) : Bool)=true:=by kernel_rfl
theorem Qvt:((Try.prog.make == some Rows.fnLayersRow.make) : Bool)=true:=by kernel_rfl
theorem Qu2:((Rows.fnLayersRow.kinds == (if Rows.fnLayersRow.domain.isEmpty then [] else Try.f6.params.toList.map fun t=>match Try.prog.underlying t with | some (.int k)=>some k | _=>none)) : Bool)=true:=by kernel_rfl
theorem Quw:((Rows.fnLayersRow.pinned == Rows.fnLayersRow.pinnedBy) : Bool)=true:=by kernel_rfl
theorem Qvd:((Rows.fnLayersRow.veiled == (Try.f6.params.toList++Rows.fnLayersSpec.plain.varTypes Try.prog++Try.f6.resultTypes.toList).any (Try.prog.veiledRec ·)) : Bool)=true:=by kernel_rfl
theorem Qvi:(Rows.fnLayersRow.veiledFits Try.prog Try.f6.params.toList (Try.f6.params.toList++Rows.fnLayersSpec.plain.varTypes Try.prog++Try.f6.resultTypes.toList) : Bool)=true:=by kernel_rfl
set_option maxRecDepth 100000 in
theorem Qsz:joinedFacts Try.prog 6 Try.f6 Rows.fnLayersSpec Rows.fnLayersRow=true:=by unfold joinedFacts;exact (Qac (Qac (Qac (Qac (Qac (Qac (Qac (Qac (Qac (Qac (Qac (Qac (Qac (Qac (Qac (Qac (Qac (Qac (Qac (Qac (Qac (Qac (Qac (Qac (Qac (Qac (Qac (Qac (Qac (Qac (Qac Qxy Qwc) Qxs) Qxp) Qwj) Qy1) Qxt) Qxu) Qxh) Qwq) Qu9) Quj) Qw3) Qw2) Qvz) Qux) Qvx) Qvb) Quq) Qv1) Qva) Qua) Qvf) Qub) Quz) Qw1) Qvj) Qvt) Qu2) Quw) Qvd) Qvi)
theorem op5 {H:Type} {enc:TypeId×Value→H} {W:World}:Qsw enc Try.prog W 5 o5 (fun x=>(Lit.int .u8 x).wf=true):=(Xd0 (Qas ty5)).map id (fun _=>rfl) (fun _ h=>h)
theorem op39 {H:Type} {enc:TypeId×Value→H} {W:World}:Qsw enc Try.prog W 39 r39 (fun x=>x.length≤9223372036854775807∧∀ y0∈x,(Lit.int .u8 y0).wf=true):=(Qyq (Qas Xki) (sz:=1) (by kernel_rfl) (by decide) op5).map id (fun _=>rfl) (fun _ h=>h)
set_option maxRecDepth 100000 in
theorem lifted (os:Os) (started:os.Started) (H:Type) (enc:TypeId×Value→H) :
  ReturnsInHanded {} Try.checked os 6 .any (Rows.fnLayersSpec.pre6 enc Try.prog Try.f6 Rows.fnLayersRow.domain false) (Rows.fnLayersSpec.post enc Try.prog Try.f6 false true false false):=by
 refine returnsInHanded_of_change (C:=Try.checked) Xg3 started (by kernel_rfl) Try.func6
  (ChangeSpec.witness6 (enc:=enc) (C:=Try.checked) false ⟨#[], #[.slice none 0 0,.slice none 0 0],[]⟩ 8 (by kernel_rfl) (by kernel_rfl) (by kernel_rfl) (by kernel_rfl)) ?_
 intro W base args ds gs before hval0 hW hcnd _
 have hval : ∀ (j:Nat) t v,Try.f6.params[j]? = some t→args[j]? = some v→Value.okWide Try.prog W .any base t v:=hval0
 have hW':=hW
 obtain ⟨p,q,hA0,hV,rfl,hfz,hnd⟩:=hW
 have hA:DataW.TrodAll enc Try.prog W 0 (fun _=>true) true Try.f6.params.toList args.toList ds p:=hA0
 rw [Try.params6] at hA hval
 obtain ⟨v0,vs0,d0,ds0,p0,q0,hargs,rfl,rfl,h0,r0⟩:=trodAll_cons hA
 obtain ⟨v1,vs1,d1,ds1,p1,q1,rfl,rfl,rfl,h1,r1⟩:=trodAll_cons r0
 obtain ⟨rfl,rfl,rfl⟩:=trodAll_nil r1
 obtain rfl:args = #[v0,v1]:=by cases args;simp_all
 obtain ⟨rfl,rfl⟩:=trodVars_none hV
 have k0:=h0
 have lt0 : ∀ x∈p0,x.block<W.heap.size:=by obtain ⟨m,hm⟩:=k0;exact DataW.trod_lt m _ _ _ hm
 have k1:=h1
 have lt1 : ∀ x∈p1,x.block<W.heap.size:=by obtain ⟨m,hm⟩:=k1;exact DataW.trod_lt m _ _ _ hm
 obtain ⟨x0,g0,rep0⟩:=Qzt (f:=fun (x:(List Int))=>AV.ro 1 (x.map o5)) op39 h0 (okWide_slice (Qas Xki) (hval 0 _ v0 rfl rfl))
 obtain ⟨x1,g1,rep1⟩:=Qzt (f:=fun (x:(List Int))=>AV.ro 1 (x.map o5)) op39 h1 (okWide_slice (Qas Xki) (hval 1 _ v1 rfl rfl))
 have hm:=(Qr0 (Qwv x0 x1 g0 g1)).2 W (fun b=>b<W.heap.size) [v0,v1] (by simp only [Qfm];exact ⟨_,_,[],[],rfl,rfl,rep0,⟨_,[],[],[],rfl,rfl,rep1,rfl,rfl⟩⟩) (fun _ h=>h)
 clear hA0 hval0
 refine hm.mono fun e W' ⟨v,fp,he,bel,_,hr,_⟩=>?_
 subst he
 obtain rfl:v = .bool true:=by simp only [rep] at hr;exact hr.2
 exact ⟨_,rfl,_,_,_,[],_,[],hW',trodAll_mk1 (shut_bool (Qas ty4) _),(trodAll_cons_mk (Below.trod Qzh (by kernel_rfl) (of_decide_eq_true (by kernel_rfl)) k0 bel lt0) (trodAll_cons_mk (Below.trod Qzh (by kernel_rfl) (of_decide_eq_true (by kernel_rfl)) k1 bel lt1) trodAll_mk0)),rfl,bel.frame _,fun h=>by cases h⟩
theorem named:Try.prog.funcNamed Rows.fnLayersRow.func=some 6:=by kernel_rfl
theorem fnLayers_proved:Rows.FnLayersSaid:=
 OpenClaim.holds_of_wide 6 Try.f6 rfl rfl rfl rfl rfl rfl rfl ⟨rfl,rfl,rfl,rfl,rfl⟩ rfl rfl rfl rfl rfl named Try.func6 Qsz
  (of_decide_eq_true (by kernel_rfl)) (by unfold Func.isWrapper;first | (rw [if_pos (by decide +kernel)];kernel_rfl) | (rw [if_neg (by decide +kernel)];exact ⟨rfl,rfl⟩))
  (fun os started H enc _=>lifted os started H enc)
end Go.Proofs.Ytdmmaanagmacjaa
