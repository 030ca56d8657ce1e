/-
  SnapshotWrites holds: any state has its bytes, or may not be: for any state the law returns true, and its argument reads as it did. Conditions: none.
-/
import Derived.Test.YtmbdghclhpboaaaGreatPw44
set_option linter.all false
set_option maxRecDepth 100000
namespace Go.Proofs.YtmbdghclhpboaaaGreat
open Ev Go.RowKit Go.ChangeShapes Go.WideShapes
theorem qL(os:Os)(started:os.Started)(H:Type)(enc:TypeId×Value->H) :
  ReturnsInHanded {} Tryz.checked os 3 .any (Rows.snapshotWritesSpec.pre6 enc Tryz.prog Tryz.f3 Rows.snapshotWritesRow.domain false) (Rows.snapshotWritesSpec.post enc Tryz.prog Tryz.f3 false true false false):=by
 refine xF (C:=Tryz.checked) Jw BQ started qM Tryz.func3 Tryz.underlying4 rfl (fun t ht=>?_) rfl (fun ds hd=>?_)
  (ChangeSpec.witness6 (enc:=enc) (C:=Tryz.checked) false ⟨#[],#[.agg #[.slice none 0 0,.slice none 0 0,.slice none 0 0,.slice none 0 0,.string ByteArray.empty,.slice none 0 0,.int .i64 0]],[]⟩ 8 (by kernel_rfl) (by kernel_rfl) (by kernel_rfl) (by kernel_rfl)) ?_
 ·have h:([28]:List TypeId).all (fun t=>Tryz.prog.readableRec t&&decide (t<Tryz.prog.types.size))=true:=by kernel_rfl
  have hm:t∈([28]:List TypeId):=ht;have:=List.all_eq_true.1 h t hm;simp only[Bool.and_eq_true,decide_eq_true_eq] at this;exact this
 ·match ds,hd with
  | [d1],_=>exact ⟨rfl,rfl,rfl⟩
 ·intro W base args ds ps sn hA Q8;have Ui:DataW.TrodAll enc Tryz.prog W 0 (fun _=>true) true [28] args.toList ds ps:=hA;obtain ⟨v,vs,d,ZR,p,p',e1,e2,e3,h1,h2⟩:=trodAll_cons Ui;obtain ⟨e4,e5,e6⟩:=trodAll_nil h2;rw[e4] at e1;obtain rfl:args=#[v]:=Array.ext' e1;obtain ⟨q,tk,hx,ho,hm⟩:=Ht (sn 0 28 v rfl rfl) h1;exact ag.calls (PZ ho.rd ho.tk ho.ar ho.cap (Nat.le_trans (PW (j:=0) (by rw[e2];rfl) rfl hm Q8) (by decide))) hx fun _ _ h=>h
theorem snapshotWrites_holds:Rows.SnapshotWritesSaid:=
 OpenClaim.holds_of_wide 3 Tryz.f3 rfl rfl rfl rfl rfl rfl rfl ⟨rfl,rfl,rfl,rfl,rfl⟩ rfl rfl rfl rfl rfl rz Tryz.func3 qK
  (of_decide_eq_true (by kernel_rfl)) (by unfold Func.isWrapper;rw[if_neg (of_decide_eq_false (by kernel_rfl))];exact ⟨rfl,rfl⟩)
  (fun os started H enc _=>qL os started H enc)
end Go.Proofs.YtmbdghclhpboaaaGreat
