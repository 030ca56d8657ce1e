/-
  SnapshotReads holds: any bytes are a state's that may be, or are refused: for any bytes the law returns true, and its argument reads as it did. Conditions: none.
-/
import Derived.Test.YtmbdghclhpboaaaGreatPq47
set_option linter.all false
set_option maxRecDepth 100000
namespace Go.Proofs.YtmbdghclhpboaaaGreat
open Ev Go.RowKit Go.ChangeShapes Go.WideShapes
theorem su(os:Os)(started:os.Started)(H:Type)(enc:TypeId×Value->H) :
  ReturnsInHanded {} Tryz.checked os 5 .any (Rows.snapshotReadsSpec.pre6 enc Tryz.prog Tryz.f5 Rows.snapshotReadsRow.domain false) (Rows.snapshotReadsSpec.post enc Tryz.prog Tryz.f5 false true false false):=by
 refine yE (C:=Tryz.checked) KW CU started sw Tryz.func5 Tryz.underlying4 rfl (fun t ht=>?_) rfl (fun ds hd=>?_)
  (ChangeSpec.witness6 (enc:=enc) (C:=Tryz.checked) false ⟨#[],#[.slice none 0 0],[]⟩ 8 (by kernel_rfl) (by kernel_rfl) (by kernel_rfl) (by kernel_rfl)) ?_
 ·have h:([31]:List TypeId).all (fun t=>Tryz.prog.readableRec t&&decide (t<Tryz.prog.types.size))=true:=by kernel_rfl
  have hm:t∈([31]:List TypeId):=ht;have:=List.all_eq_true.1 h t hm;simp only[Bool.and_eq_true,decide_eq_true_eq] at this;exact this
 ·match ds,hd with
  | [d1],_=>exact ⟨rfl,rfl,rfl⟩
 ·intro W base args ds ps rZ hA XO;have WT:DataW.TrodAll enc Tryz.prog W 0 (fun _=>true) true [31] args.toList ds ps:=hA;obtain ⟨v,vs,d,ds',p,p',e1,e2,e3,h1,h2⟩:=trodAll_cons WT;obtain ⟨e4,e5,e6⟩:=trodAll_nil h2;rw[e4] at e1;obtain rfl:args=#[v]:=Array.ext' e1;obtain ⟨l,hs⟩:=I9 (rZ 0 31 v rfl rfl) h1;obtain ⟨A,c,rfl,ho⟩:=Kg (rZ 0 31 v rfl rfl) hs;exact aj.calls (UU ho) rfl fun _ _ h=>h
theorem snapshotReads_holds:Rows.SnapshotReadsSaid:=
 OpenClaim.holds_of_wide 5 Tryz.f5 rfl rfl rfl rfl rfl rfl rfl ⟨rfl,rfl,rfl,rfl,rfl⟩ rfl rfl rfl rfl rfl tW Tryz.func5 sq
  (dT1 (by kernel_rfl)) (by unfold Func.isWrapper;rw[if_neg (dF1 (by kernel_rfl))];exact ⟨rfl,rfl⟩)
  (fun os started H enc _=>su os started H enc)
end Go.Proofs.YtmbdghclhpboaaaGreat
