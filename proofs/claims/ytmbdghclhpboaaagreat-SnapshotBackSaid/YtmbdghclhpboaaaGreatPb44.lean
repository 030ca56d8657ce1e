/-
  SnapshotBack holds: what is written of a state is read as it was: for any state the law returns true, and its argument reads as it did. Conditions: none.
-/
import Derived.Test.YtmbdghclhpboaaaGreatPb43
set_option linter.all false
set_option maxRecDepth 100000
namespace Go.Proofs.YtmbdghclhpboaaaGreat
open Ev Go.RowKit Go.ChangeShapes Go.WideShapes
theorem snapshotBack_lifted(os:Os)(started:os.Started)(H:Type)(enc:TypeId×Value→H) :
  ReturnsInHanded {} Tryz.checked os 4 .any (Rows.snapshotBackSpec.pre6 enc Tryz.prog Tryz.f4 Rows.snapshotBackRow.domain false) (Rows.snapshotBackSpec.post enc Tryz.prog Tryz.f4 false true false false):=by
 refine law_lifts (C:=Tryz.checked) knob_none seat_laid started snapshotBack_noInit Tryz.func4 Tryz.underlying4 rfl (fun t ht=>?_) rfl (fun ds hd=>?_)
  (ChangeSpec.witness6 (enc:=enc) (C:=Tryz.checked) false ⟨#[],#[.agg #[.slice none 0 0,.slice none 0 0,.slice none 0 0,.slice none 0 0,.string ByteArray.empty,.slice none 0 0,.int .i64 0]],[]⟩ 8 (by kernel_rfl) (by kernel_rfl) (by kernel_rfl) (by kernel_rfl)) ?_
 ·have h:([28]:List TypeId).all (fun t=>Tryz.prog.readableRec t&&decide (t<Tryz.prog.types.size))=true:=by kernel_rfl
  have hm:t∈([28]:List TypeId):=ht
  have:=List.all_eq_true.1 h t hm
  simp only[Bool.and_eq_true,decide_eq_true_eq] at this
  exact this
 ·match ds,hd with
  | [d1],_=>exact ⟨rfl,rfl,rfl⟩
 ·intro W base args ds ps hval hA
  have hA':DataW.TrodAll enc Tryz.prog W 0 (fun _=>true) true [28] args.toList ds ps:=hA
  obtain ⟨v,vs,d,ds',p,p',e1,e2,e3,h1,h2⟩:=trodAll_cons hA'
  obtain ⟨e4,e5,e6⟩:=trodAll_nil h2
  rw[e4] at e1
  obtain rfl:args=#[v]:=Array.ext' e1
  obtain ⟨q,tk,hx,ho⟩:=open_state (hval 0 28 v rfl rfl) h1
  exact CallS.calls (sback ho.rd ho.tk ho.ar) hx fun _ _ h=>h
theorem snapshotBack_holds:Rows.SnapshotBackSaid:=
 OpenClaim.holds_of_wide 4 Tryz.f4 rfl rfl rfl rfl rfl rfl rfl ⟨rfl,rfl,rfl,rfl,rfl⟩ rfl rfl rfl rfl rfl snapshotBack_named Tryz.func4 snapshotBack_closed
  (of_decide_eq_true (by kernel_rfl)) (by unfold Func.isWrapper;rw[if_neg (of_decide_eq_false (by kernel_rfl))];exact ⟨rfl,rfl⟩)
  (fun os started H enc _=>snapshotBack_lifted os started H enc)
end Go.Proofs.YtmbdghclhpboaaaGreat
