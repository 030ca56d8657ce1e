/- Part of the proof: Same Same2 Sort SyQ LawBk Args. Conditions: as each states. -/
import Derived.Test.YtmbdghclhpboaaaGreatPb41
import Derived.Lib.ReflectliteSlice
import Derived.ProofKit
import Derived.Deep.Fields
set_option linter.all false
set_option maxRecDepth 100000
set_option maxHeartbeats 8000000
namespace Go.Proofs.YtmbdghclhpboaaaGreat
open Ev
def eqL{α:Type}(eq:α→α→Bool):List α→List α→Bool
 | [],[]=>true
 | a::l,b::m=>eq a b&&eqL eq l m
 | _,_=>false
theorem eqL_len{α:Type}{eq:α→α→Bool}:∀{l m:List α},l.length≠m.length→eqL eq l m=false
 | [],[],h=>absurd rfl h
 | [],_::_,_=>rfl
 | _::_,[],_=>rfl
 | a::l,b::m,h=>by
   unfold eqL
   rw[eqL_len (l:=l) (m:=m) (by simpa using h),Bool.and_false]
theorem eqL_step{α:Type}{eq:α→α→Bool}{l m:List α}{k:Nat}(hk:k<l.length)(hk2:k<m.length):eqL eq (l.drop k) (m.drop k)=(eq l[k] m[k]&&eqL eq (l.drop (k+1)) (m.drop (k+1))):=by
 rw[List.drop_eq_getElem_cons hk,List.drop_eq_getElem_cons hk2]
 rfl
theorem eqL_self{α:Type}{eq:α→α→Bool}(h:∀a,eq a a=true):∀l,eqL eq l l=true
 | []=>rfl
 | a::l=>by unfold eqL;rw[h,eqL_self h l];rfl
theorem eqv_of{b c:Bool}(h:b=!c):c=!b:=by rw[h,Bool.not_not]
def Mem.eqv(a b:Mem):Bool:=a.user==b.user&&(a.role==b.role&&(a.tier==b.tier&&(a.quota==b.quota&&(a.k==b.k&&(a.area==b.area&&true)))))
theorem Mem.eqv_self(a:Mem):a.eqv a=true:=by simp[Mem.eqv]
def Rcd.eqv(a b:Rcd):Bool:=a.id==b.id&&(a.x==b.x&&(a.y==b.y&&(a.label==b.label&&true)))
theorem Rcd.eqv_self(a:Rcd):a.eqv a=true:=by simp[Rcd.eqv]
def Shp.eqv(a b:Shp):Bool:=a.id==b.id&&(a.x0==b.x0&&(a.y0==b.y0&&(a.x1==b.x1&&(a.y1==b.y1&&(a.label==b.label&&true)))))
theorem Shp.eqv_self(a:Shp):a.eqv a=true:=by simp[Shp.eqv]
def Evn.eqv(a b:Evn):Bool:=a.user==b.user&&(a.op==b.op&&(a.status==b.status&&(a.tick==b.tick&&true)))
theorem Evn.eqv_self(a:Evn):a.eqv a=true:=by simp[Evn.eqv]
def Tik.eqv(a b:Tik):Bool:=((a.secret:Nat):Int)==((b.secret:Nat):Int)&&(((a.parent:Nat):Int)==((b.parent:Nat):Int)&&(a.g.ops==b.g.ops&&(a.g.zoom==b.g.zoom&&(a.g.x0==b.g.x0&&(a.g.y0==b.g.y0&&(a.g.x1==b.g.x1&&(a.g.y1==b.g.y1&&(a.g.void==b.g.void&&(a.g.till==b.g.till&&true)))))))))
theorem Tik.eqv_self(a:Tik):a.eqv a=true:=by simp[Tik.eqv]
theorem rsameM{R1 R2:Res}{A B:Option Addr}{c d:Nat}{l m:List Mem}(hl:RdV Tryz.prog R1 51 6 A mC l)(hm:RdV Tryz.prog R2 51 6 B mC m)(hn:l.length≤1000000000):CP [] 41 [.lit (.slice A l.length c),.lit (.slice B m.length d)] [.res R1,.res R2] (fun v H'=>v=bA (eqL Mem.eqv l m)∧∃G,H'=.res R1::.res R2::G):=by
 refine fn_ok ev_ok rfl ?_
 repeat' ((conv=>whnf);with_reducible apply brP_of<;>intro _)
 all_goals (try conv=>whnf)
 ·rename_i hx
  have hne:l.length≠m.length:=fun e=>by rw[e] at hx;simp at hx
  exact ⟨bA_eq (eqL_len hne).symm,[],rfl⟩
 ·rename_i hx
  have hlm:l.length=m.length:=by
   have:=bne_eq_false_iff_eq.1 hx
   omega
  refine loopP ev_ok rfl (fun k:Nat=>[(0,.lit (.slice A l.length c)),(1,.lit (.slice B m.length d)),(5,iA (k:Nat))]) (fun _=>[.res R1,.res R2]) (fun k=>k≤l.length∧eqL Mem.eqv l m=eqL Mem.eqv (l.drop k) (m.drop k)) (fun k=>l.length - k) 0 ⟨Nat.zero_le _,rfl⟩ [0,1] ?_ ?_
  ·exact ⟨rfl,⟨⟨rfl,rfl⟩,⟨rfl,rfl⟩,⟨rfl,rfl⟩,tU⟩,⟨⟨_,rfl,kp⟩,⟨_,rfl,kp⟩,tU⟩⟩
  ·rintro k ⟨hk0,hr⟩
   by_cases hk:k<l.length
   ·have hk2:k<m.length:=by omega
    obtain ⟨a,rfl,hrd1⟩:=hl.at hk
    obtain ⟨b,rfl,hrd2⟩:=hm.at hk2
    rw[eqL_step hk hk2] at hr
    conv=>whnf
    refine brP_of (fun _=>?_) (noF hk)
    repeat' ((conv=>whnf);first|with_reducible apply brP_of<;>intro _|refine WpS.tail ev_ok 8 rfl (by kernel_rfl) ?_|refine RdP.idxL ev_ok rfl rfl rfl rfl rfl hk ?_|refine RdP.idxL ev_ok rfl rfl rfl rfl rfl hk2 ?_|refine RdP.loadR (i:=0) (v:=.agg (mA l[k])) rfl (fun w S hR=>hrd1 w S hR k hk) rfl rfl ?_|refine RdP.loadR (i:=1) (v:=.agg (mA m[k])) rfl (fun w S hR=>hrd2 w S hR k hk2) rfl rfl ?_|refine RdP.pure ev_ok rfl ?_|refine RdP.read ev_ok rfl ?_)
    all_goals (try conv=>whnf)
    all_goals (rename_i hy;replace hy:Mem.eqv l[k] m[k]=_:=eqv_of hy.symm)
    ·exact ⟨bA_eq (by rw[hr,hy];rfl),[],rfl⟩
    ·rw[hy,Bool.not_false,Bool.true_and] at hr
     exact ⟨k+1,[0,1],⟨⟨hk,hr⟩,by omega⟩,rfl,⟨⟨rfl,rfl⟩,⟨rfl,rfl⟩,⟨rfl,subInt rfl (wrap_in (by omega) (by omega))⟩,tU⟩,⟨⟨_,rfl,kp⟩,⟨_,rfl,kp⟩,tU⟩⟩
   ·obtain rfl:k=l.length:=by omega
    conv=>whnf
    refine brP_of (noT hk) (fun _=>?_)
    repeat' ((conv=>whnf);with_reducible apply brP_of<;>intro _)
    all_goals (try conv=>whnf)
    rw[List.drop_length,hlm,List.drop_length] at hr
    exact ⟨bA_eq (by rw[hr];rfl),[],rfl⟩
theorem rsameR{R1 R2:Res}{A B:Option Addr}{c d:Nat}{l m:List Rcd}(hl:RdV Tryz.prog R1 72 4 A rcC l)(hm:RdV Tryz.prog R2 72 4 B rcC m)(hn:l.length≤1000000000):CP [] 42 [.lit (.slice A l.length c),.lit (.slice B m.length d)] [.res R1,.res R2] (fun v H'=>v=bA (eqL Rcd.eqv l m)∧∃G,H'=.res R1::.res R2::G):=by
 refine fn_ok ev_ok rfl ?_
 repeat' ((conv=>whnf);with_reducible apply brP_of<;>intro _)
 all_goals (try conv=>whnf)
 ·rename_i hx
  have hne:l.length≠m.length:=fun e=>by rw[e] at hx;simp at hx
  exact ⟨bA_eq (eqL_len hne).symm,[],rfl⟩
 ·rename_i hx
  have hlm:l.length=m.length:=by
   have:=bne_eq_false_iff_eq.1 hx
   omega
  refine loopP ev_ok rfl (fun k:Nat=>[(0,.lit (.slice A l.length c)),(1,.lit (.slice B m.length d)),(5,iA (k:Nat))]) (fun _=>[.res R1,.res R2]) (fun k=>k≤l.length∧eqL Rcd.eqv l m=eqL Rcd.eqv (l.drop k) (m.drop k)) (fun k=>l.length - k) 0 ⟨Nat.zero_le _,rfl⟩ [0,1] ?_ ?_
  ·exact ⟨rfl,⟨⟨rfl,rfl⟩,⟨rfl,rfl⟩,⟨rfl,rfl⟩,tU⟩,⟨⟨_,rfl,kp⟩,⟨_,rfl,kp⟩,tU⟩⟩
  ·rintro k ⟨hk0,hr⟩
   by_cases hk:k<l.length
   ·have hk2:k<m.length:=by omega
    obtain ⟨a,rfl,hrd1⟩:=hl.at hk
    obtain ⟨b,rfl,hrd2⟩:=hm.at hk2
    rw[eqL_step hk hk2] at hr
    conv=>whnf
    refine brP_of (fun _=>?_) (noF hk)
    repeat' ((conv=>whnf);first|with_reducible apply brP_of<;>intro _|refine WpS.tail ev_ok 8 rfl (by kernel_rfl) ?_|refine RdP.idxL ev_ok rfl rfl rfl rfl rfl hk ?_|refine RdP.idxL ev_ok rfl rfl rfl rfl rfl hk2 ?_|refine RdP.loadR (i:=0) (v:=.agg (rcdA l[k])) rfl (fun w S hR=>hrd1 w S hR k hk) rfl rfl ?_|refine RdP.loadR (i:=1) (v:=.agg (rcdA m[k])) rfl (fun w S hR=>hrd2 w S hR k hk2) rfl rfl ?_|refine RdP.pure ev_ok rfl ?_|refine RdP.read ev_ok rfl ?_)
    all_goals (try conv=>whnf)
    all_goals (rename_i hy;replace hy:Rcd.eqv l[k] m[k]=_:=eqv_of hy.symm)
    ·exact ⟨bA_eq (by rw[hr,hy];rfl),[],rfl⟩
    ·rw[hy,Bool.not_false,Bool.true_and] at hr
     exact ⟨k+1,[0,1],⟨⟨hk,hr⟩,by omega⟩,rfl,⟨⟨rfl,rfl⟩,⟨rfl,rfl⟩,⟨rfl,subInt rfl (wrap_in (by omega) (by omega))⟩,tU⟩,⟨⟨_,rfl,kp⟩,⟨_,rfl,kp⟩,tU⟩⟩
   ·obtain rfl:k=l.length:=by omega
    conv=>whnf
    refine brP_of (noT hk) (fun _=>?_)
    repeat' ((conv=>whnf);with_reducible apply brP_of<;>intro _)
    all_goals (try conv=>whnf)
    rw[List.drop_length,hlm,List.drop_length] at hr
    exact ⟨bA_eq (by rw[hr];rfl),[],rfl⟩
theorem rsameS{R1 R2:Res}{A B:Option Addr}{c d:Nat}{l m:List Shp}(hl:RdV Tryz.prog R1 78 6 A shC l)(hm:RdV Tryz.prog R2 78 6 B shC m)(hn:l.length≤1000000000):CP [] 43 [.lit (.slice A l.length c),.lit (.slice B m.length d)] [.res R1,.res R2] (fun v H'=>v=bA (eqL Shp.eqv l m)∧∃G,H'=.res R1::.res R2::G):=by
 refine fn_ok ev_ok rfl ?_
 repeat' ((conv=>whnf);with_reducible apply brP_of<;>intro _)
 all_goals (try conv=>whnf)
 ·rename_i hx
  have hne:l.length≠m.length:=fun e=>by rw[e] at hx;simp at hx
  exact ⟨bA_eq (eqL_len hne).symm,[],rfl⟩
 ·rename_i hx
  have hlm:l.length=m.length:=by
   have:=bne_eq_false_iff_eq.1 hx
   omega
  refine loopP ev_ok rfl (fun k:Nat=>[(0,.lit (.slice A l.length c)),(1,.lit (.slice B m.length d)),(5,iA (k:Nat))]) (fun _=>[.res R1,.res R2]) (fun k=>k≤l.length∧eqL Shp.eqv l m=eqL Shp.eqv (l.drop k) (m.drop k)) (fun k=>l.length - k) 0 ⟨Nat.zero_le _,rfl⟩ [0,1] ?_ ?_
  ·exact ⟨rfl,⟨⟨rfl,rfl⟩,⟨rfl,rfl⟩,⟨rfl,rfl⟩,tU⟩,⟨⟨_,rfl,kp⟩,⟨_,rfl,kp⟩,tU⟩⟩
  ·rintro k ⟨hk0,hr⟩
   by_cases hk:k<l.length
   ·have hk2:k<m.length:=by omega
    obtain ⟨a,rfl,hrd1⟩:=hl.at hk
    obtain ⟨b,rfl,hrd2⟩:=hm.at hk2
    rw[eqL_step hk hk2] at hr
    conv=>whnf
    refine brP_of (fun _=>?_) (noF hk)
    repeat' ((conv=>whnf);first|with_reducible apply brP_of<;>intro _|refine WpS.tail ev_ok 8 rfl (by kernel_rfl) ?_|refine RdP.idxL ev_ok rfl rfl rfl rfl rfl hk ?_|refine RdP.idxL ev_ok rfl rfl rfl rfl rfl hk2 ?_|refine RdP.loadR (i:=0) (v:=.agg (shpA l[k])) rfl (fun w S hR=>hrd1 w S hR k hk) rfl rfl ?_|refine RdP.loadR (i:=1) (v:=.agg (shpA m[k])) rfl (fun w S hR=>hrd2 w S hR k hk2) rfl rfl ?_|refine RdP.pure ev_ok rfl ?_|refine RdP.read ev_ok rfl ?_)
    all_goals (try conv=>whnf)
    all_goals (rename_i hy;replace hy:Shp.eqv l[k] m[k]=_:=eqv_of hy.symm)
    ·exact ⟨bA_eq (by rw[hr,hy];rfl),[],rfl⟩
    ·rw[hy,Bool.not_false,Bool.true_and] at hr
     exact ⟨k+1,[0,1],⟨⟨hk,hr⟩,by omega⟩,rfl,⟨⟨rfl,rfl⟩,⟨rfl,rfl⟩,⟨rfl,subInt rfl (wrap_in (by omega) (by omega))⟩,tU⟩,⟨⟨_,rfl,kp⟩,⟨_,rfl,kp⟩,tU⟩⟩
   ·obtain rfl:k=l.length:=by omega
    conv=>whnf
    refine brP_of (noT hk) (fun _=>?_)
    repeat' ((conv=>whnf);with_reducible apply brP_of<;>intro _)
    all_goals (try conv=>whnf)
    rw[List.drop_length,hlm,List.drop_length] at hr
    exact ⟨bA_eq (by rw[hr];rfl),[],rfl⟩
theorem rsameE{R1 R2:Res}{A B:Option Addr}{c d:Nat}{l m:List Evn}(hl:RdV Tryz.prog R1 81 4 A evC l)(hm:RdV Tryz.prog R2 81 4 B evC m)(hn:l.length≤1000000000):CP [] 44 [.lit (.slice A l.length c),.lit (.slice B m.length d)] [.res R1,.res R2] (fun v H'=>v=bA (eqL Evn.eqv l m)∧∃G,H'=.res R1::.res R2::G):=by
 refine fn_ok ev_ok rfl ?_
 repeat' ((conv=>whnf);with_reducible apply brP_of<;>intro _)
 all_goals (try conv=>whnf)
 ·rename_i hx
  have hne:l.length≠m.length:=fun e=>by rw[e] at hx;simp at hx
  exact ⟨bA_eq (eqL_len hne).symm,[],rfl⟩
 ·rename_i hx
  have hlm:l.length=m.length:=by
   have:=bne_eq_false_iff_eq.1 hx
   omega
  refine loopP ev_ok rfl (fun k:Nat=>[(0,.lit (.slice A l.length c)),(1,.lit (.slice B m.length d)),(5,iA (k:Nat))]) (fun _=>[.res R1,.res R2]) (fun k=>k≤l.length∧eqL Evn.eqv l m=eqL Evn.eqv (l.drop k) (m.drop k)) (fun k=>l.length - k) 0 ⟨Nat.zero_le _,rfl⟩ [0,1] ?_ ?_
  ·exact ⟨rfl,⟨⟨rfl,rfl⟩,⟨rfl,rfl⟩,⟨rfl,rfl⟩,tU⟩,⟨⟨_,rfl,kp⟩,⟨_,rfl,kp⟩,tU⟩⟩
  ·rintro k ⟨hk0,hr⟩
   by_cases hk:k<l.length
   ·have hk2:k<m.length:=by omega
    obtain ⟨a,rfl,hrd1⟩:=hl.at hk
    obtain ⟨b,rfl,hrd2⟩:=hm.at hk2
    rw[eqL_step hk hk2] at hr
    conv=>whnf
    refine brP_of (fun _=>?_) (noF hk)
    repeat' ((conv=>whnf);first|with_reducible apply brP_of<;>intro _|refine WpS.tail ev_ok 8 rfl (by kernel_rfl) ?_|refine RdP.idxL ev_ok rfl rfl rfl rfl rfl hk ?_|refine RdP.idxL ev_ok rfl rfl rfl rfl rfl hk2 ?_|refine RdP.loadR (i:=0) (v:=.agg (evA l[k])) rfl (fun w S hR=>hrd1 w S hR k hk) rfl rfl ?_|refine RdP.loadR (i:=1) (v:=.agg (evA m[k])) rfl (fun w S hR=>hrd2 w S hR k hk2) rfl rfl ?_|refine RdP.pure ev_ok rfl ?_|refine RdP.read ev_ok rfl ?_)
    all_goals (try conv=>whnf)
    all_goals (rename_i hy;replace hy:Evn.eqv l[k] m[k]=_:=eqv_of hy.symm)
    ·exact ⟨bA_eq (by rw[hr,hy];rfl),[],rfl⟩
    ·rw[hy,Bool.not_false,Bool.true_and] at hr
     exact ⟨k+1,[0,1],⟨⟨hk,hr⟩,by omega⟩,rfl,⟨⟨rfl,rfl⟩,⟨rfl,rfl⟩,⟨rfl,subInt rfl (wrap_in (by omega) (by omega))⟩,tU⟩,⟨⟨_,rfl,kp⟩,⟨_,rfl,kp⟩,tU⟩⟩
   ·obtain rfl:k=l.length:=by omega
    conv=>whnf
    refine brP_of (noT hk) (fun _=>?_)
    repeat' ((conv=>whnf);with_reducible apply brP_of<;>intro _)
    all_goals (try conv=>whnf)
    rw[List.drop_length,hlm,List.drop_length] at hr
    exact ⟨bA_eq (by rw[hr];rfl),[],rfl⟩
theorem rsameT{R1 R2:Res}{A B:Option Addr}{c d:Nat}{l m:List Tik}(hl:RdV Tryz.prog R1 96 10 A tikV l)(hm:RdV Tryz.prog R2 96 10 B tikV m)(hn:l.length≤1000000000):CP [] 45 [.lit (.slice A l.length c),.lit (.slice B m.length d)] [.res R1,.res R2] (fun v H'=>v=bA (eqL Tik.eqv l m)∧∃G,H'=.res R1::.res R2::G):=by
 refine fn_ok ev_ok rfl ?_
 repeat' ((conv=>whnf);with_reducible apply brP_of<;>intro _)
 all_goals (try conv=>whnf)
 ·rename_i hx
  have hne:l.length≠m.length:=fun e=>by rw[e] at hx;simp at hx
  exact ⟨bA_eq (eqL_len hne).symm,[],rfl⟩
 ·rename_i hx
  have hlm:l.length=m.length:=by
   have:=bne_eq_false_iff_eq.1 hx
   omega
  refine loopP ev_ok rfl (fun k:Nat=>[(0,.lit (.slice A l.length c)),(1,.lit (.slice B m.length d)),(5,iA (k:Nat))]) (fun _=>[.res R1,.res R2]) (fun k=>k≤l.length∧eqL Tik.eqv l m=eqL Tik.eqv (l.drop k) (m.drop k)) (fun k=>l.length - k) 0 ⟨Nat.zero_le _,rfl⟩ [0,1] ?_ ?_
  ·exact ⟨rfl,⟨⟨rfl,rfl⟩,⟨rfl,rfl⟩,⟨rfl,rfl⟩,tU⟩,⟨⟨_,rfl,kp⟩,⟨_,rfl,kp⟩,tU⟩⟩
  ·rintro k ⟨hk0,hr⟩
   by_cases hk:k<l.length
   ·have hk2:k<m.length:=by omega
    obtain ⟨a,rfl,hrd1⟩:=hl.at hk
    obtain ⟨b,rfl,hrd2⟩:=hm.at hk2
    rw[eqL_step hk hk2] at hr
    conv=>whnf
    refine brP_of (fun _=>?_) (noF hk)
    repeat' ((conv=>whnf);first|with_reducible apply brP_of<;>intro _|refine WpS.tail ev_ok 8 rfl (by kernel_rfl) ?_|refine RdP.idxL ev_ok rfl rfl rfl rfl rfl hk ?_|refine RdP.idxL ev_ok rfl rfl rfl rfl rfl hk2 ?_|refine RdP.loadR (i:=0) (v:=.agg (tikA' l[k])) rfl (fun w S hR=>hrd1 w S hR k hk) rfl rfl ?_|refine RdP.loadR (i:=1) (v:=.agg (tikA' m[k])) rfl (fun w S hR=>hrd2 w S hR k hk2) rfl rfl ?_|refine RdP.pure ev_ok rfl ?_|refine RdP.read ev_ok rfl ?_)
    all_goals (try conv=>whnf)
    all_goals (rename_i hy;replace hy:Tik.eqv l[k] m[k]=_:=eqv_of hy.symm)
    ·exact ⟨bA_eq (by rw[hr,hy];rfl),[],rfl⟩
    ·rw[hy,Bool.not_false,Bool.true_and] at hr
     exact ⟨k+1,[0,1],⟨⟨hk,hr⟩,by omega⟩,rfl,⟨⟨rfl,rfl⟩,⟨rfl,rfl⟩,⟨rfl,subInt rfl (wrap_in (by omega) (by omega))⟩,tU⟩,⟨⟨_,rfl,kp⟩,⟨_,rfl,kp⟩,tU⟩⟩
   ·obtain rfl:k=l.length:=by omega
    conv=>whnf
    refine brP_of (noT hk) (fun _=>?_)
    repeat' ((conv=>whnf);with_reducible apply brP_of<;>intro _)
    all_goals (try conv=>whnf)
    rw[List.drop_length,hlm,List.drop_length] at hr
    exact ⟨bA_eq (by rw[hr];rfl),[],rfl⟩
theorem rsameS2{R1 R2:Res}{q q':Sta}{tk tk':List TkS}(h1:q.Rd R1)(k1:q.Tk R1 tk)(h2:q'.Rd R2)(k2:q'.Tk R2 tk')(h:SameS q tk q' tk')(l0:q.ms.length≤60000)(lt:q.nt≤60000)(l1:q.rs.length≤60000)(l2:q.ss.length≤60000)(l3:q.es.length≤1000000000)(l4:∀x∈tk,x.l.length≤1000000000) :
  CP [] 16 [.agg q.a,.agg q'.a] [.res R1,.res R2] (fun v H'=>v=bA true∧∃G,H'=.res R1::.res R2::G):=by
 have htl:tk'.length=tk.length:=by
  have:=congrArg List.length h.tk
  simpa using this
 have hnt:q'.nt=q.nt:=by rw[k1.nt,k2.nt,htl]
 have hms:=h2.ms
 have hrs:=h2.rs
 have hss:=h2.ss
 have hes:=h2.es
 have htt:=k2.rd
 rw[h.ms] at hms
 rw[h.rs] at hrs
 rw[h.ss] at hss
 rw[h.es] at hes
 have e:q'.a=[.lit (.slice q'.om q.ms.length q'.cm),.lit (.slice q'.ot q.nt q'.ct),.lit (.slice q'.orr q.rs.length q'.cr),.lit (.slice q'.os q.ss.length q'.cs),.lit (.string q.tx),.lit (.slice q'.oe q.es.length q'.ce),iA q.past]:=by
  unfold Sta.a
  rw[h.ms,h.rs,h.ss,h.es,h.tx,h.past,hnt]
 rw[e]
 refine fn_ok ev_ok rfl ?_
 repeat' ((conv=>whnf);first|with_reducible apply brP_of<;>intro _|(refine (rsameM (c:=q.cm) (d:=q'.cm) h1.ms hms (by omega)).use [0,1] rfl rfl ⟨⟨_,rfl,kp⟩,⟨_,rfl,kp⟩,tU⟩ ?_;rintro _ _ ⟨rfl,G1,rfl⟩;rw[eqL_self Mem.eqv_self];refine ⟨[],?_⟩)|(refine (rsameR (c:=q.cr) (d:=q'.cr) h1.rs hrs (by omega)).use [0,1] rfl rfl ⟨⟨_,rfl,kp⟩,⟨_,rfl,kp⟩,tU⟩ ?_;rintro _ _ ⟨rfl,G2,rfl⟩;rw[eqL_self Rcd.eqv_self];refine ⟨[],?_⟩)|(refine (rsameS (c:=q.cs) (d:=q'.cs) h1.ss hss (by omega)).use [0,1] rfl rfl ⟨⟨_,rfl,kp⟩,⟨_,rfl,kp⟩,tU⟩ ?_;rintro _ _ ⟨rfl,G3,rfl⟩;rw[eqL_self Shp.eqv_self];refine ⟨[],?_⟩)|(refine (rsameE (c:=q.ce) (d:=q'.ce) h1.es hes l3).use [0,1] rfl rfl ⟨⟨_,rfl,kp⟩,⟨_,rfl,kp⟩,tU⟩ ?_;rintro _ _ ⟨rfl,G4,rfl⟩;rw[eqL_self Evn.eqv_self];refine ⟨[],?_⟩))
 all_goals (try conv=>whnf)
 ·rename_i hx
  simp at hx
 ·rename_i hx
  simp at hx
 ·rename_i hx
  simp at hx
 ·clear e
  refine loopP ev_ok rfl (fun k:Nat=>[(2,.ptr 2 0),(3,.ptr 3 0),(5,iA (k:Nat))]) (fun _=>[.res R1,.res R2,.cells q.a 28,.cells [.lit (.slice q'.om q.ms.length q'.cm),.lit (.slice q'.ot q.nt q'.ct),.lit (.slice q'.orr q.rs.length q'.cr),.lit (.slice q'.os q.ss.length q'.cs),.lit (.string q.tx),.lit (.slice q'.oe q.es.length q'.ce),iA q.past] 28]) (fun k=>k≤q.nt) (fun k=>q.nt - k) 0 (Nat.zero_le _) [0,1,2,3] ?_ ?_
  ·exact ⟨rfl,⟨⟨rfl,rfl⟩,⟨rfl,rfl⟩,⟨rfl,rfl⟩,tU⟩,⟨⟨_,rfl,kp⟩,⟨_,rfl,kp⟩,⟨_,rfl,rfl⟩,⟨_,rfl,rfl⟩,tU⟩⟩
  ·intro k hk0
   have hn1:=k1.nt
   by_cases hk:k<q.nt
   ·have hk1:k<tk.length:=by omega
    have hk2:k<tk'.length:=by omega
    obtain ⟨a,ha,hrd1⟩:=k1.rd.at hk1
    obtain ⟨b,hb,hrd2⟩:=htt.at hk2
    have hl:tk'[k].l=tk[k].l:=by
     have e1:(tk'.map TkS.l)[k]'(by simpa using hk2)=(tk.map TkS.l)[k]'(by simpa using hk1):=by simp only[h.tk]
     simpa using e1
    have hm1:=k1.el _ (List.getElem_mem hk1)
    have hm2:=k2.el _ (List.getElem_mem hk2)
    have hll:=l4 _ (List.getElem_mem hk1)
    rw[hl] at hm2
    have e2:tkV tk'[k]=.slice tk'[k].oa tk[k].l.length tk'[k].c:=by unfold tkV;rw[hl]
    have hrd2':∀w S,R2.at_ w S→(loadVar 52 (b.add (k * 1))).run Tryz.prog w=.ok (.slice tk'[k].oa tk[k].l.length tk'[k].c) w:=fun w S hR=>by rw[←e2];exact hrd2 w S hR k hk2
    simp only[ha,hb,Sta.a]
    conv=>whnf
    refine brP_of (fun _=>?_) (noF hk)
    repeat' ((conv=>whnf);first|with_reducible apply brP_of<;>intro _|refine WpS.tail ev_ok 10 rfl (by kernel_rfl) ?_|refine RdP.idxL ev_ok rfl rfl rfl rfl rfl hk ?_|refine RdP.loadR (i:=0) (v:=.lit (tkV tk[k])) rfl (fun w S hR=>hrd1 w S hR k hk1) rfl rfl ?_|refine RdP.loadR (i:=1) (v:=.lit (.slice tk'[k].oa tk[k].l.length tk'[k].c)) rfl hrd2' rfl rfl ?_|refine RdP.pure ev_ok rfl ?_|refine RdP.read ev_ok rfl ?_|(refine (rsameT (c:=tk[k].c) (d:=tk'[k].c) hm1 hm2 hll).use [0,1] rfl rfl ⟨⟨_,rfl,kp⟩,⟨_,rfl,kp⟩,tU⟩ ?_;rintro _ _ ⟨rfl,G1,rfl⟩;rw[eqL_self Tik.eqv_self];refine ⟨[],?_⟩))
    all_goals (try conv=>whnf)
    exact ⟨k+1,[0,1,2,3],⟨hk,by omega⟩,rfl,⟨⟨rfl,rfl⟩,⟨rfl,rfl⟩,⟨rfl,subInt rfl (wrap_in (by omega) (by omega))⟩,tU⟩,⟨⟨_,rfl,kp⟩,⟨_,rfl,kp⟩,⟨_,rfl,rfl⟩,⟨_,rfl,rfl⟩,tU⟩⟩
   ·simp only[Sta.a]
    conv=>whnf
    refine brP_of (noT hk) (fun _=>?_)
    repeat' ((conv=>whnf);with_reducible apply brP_of<;>intro _)
    all_goals (try conv=>whnf)
    exact ⟨rfl,_,rfl⟩
end Go.Proofs.YtmbdghclhpboaaaGreat
namespace Go.Proofs.YtmbdghclhpboaaaGreat
open Ev Go.RowKit
structure SortT(t:TypeId):Prop where
 row:∃e i ie ke,Tryz.prog.info? t=some i∧i.desc=.slice e∧Tryz.prog.packed t=false∧Tryz.prog.info? e=some ie∧∀w,(Extern.Rtype.kind e).run Tryz.prog w=.ok ke w
theorem valueOf_run{t:TypeId}(h:SortT t)(p:Option Addr)(n c:Nat)(w:World) :
  (callFunc 427 #[.iface t (.slice p n c)]).run Tryz.prog w=.ok (.value (.agg #[typeHandle Tryz.prog t,.pointer (some ⟨w.heap.size,0,none⟩),.int .u64 151])) (w.alloc (.cells #[.slice p n c] t)):=by
 obtain ⟨e,i,ie,ke,h1,h2,h3,h4,h5⟩:=h.row
 rw[run_callFunc_extern Tryz.func427 (by kernel_rfl) (by kernel_rfl) (by kernel_rfl) (e:=fun args=>Extern.ReflectliteValue.unpack (args.getD 0 (.tuple #[]))) (by kernel_rfl)]
 show Result.andThen ((Extern.ReflectliteValue.unpack (.iface t (.slice p n c))).run Tryz.prog w) _=_
 rw[Lib.run_valueOf_slice t e i h1 h2 p n c w]
 rfl
theorem swapper_run{t:TypeId}(h:SortT t)(p:Option Addr)(n c:Nat)(hn:n≤1) :
  ∃f,∀w,(callFunc 428 #[.iface t (.slice p n c)]).run Tryz.prog w=.ok (.value (.func (.func f) #[] #[])) w:=by
 obtain ⟨e,i,ie,ke,h1,h2,h3,h4,h5⟩:=h.row
 have hk:Lib.swapperK n ie ke≤2:=by
  unfold Lib.swapperK
  rcases (by omega:n=0∨n=1) with rfl|rfl<;>simp
 have hf:∃f,Tryz.prog.funcs.findIdx? (·.name== "internal/reflectlite"++ ".Swapper$"++toString (Lib.swapperK n ie ke))=some f:=by
  rcases (by omega:n=0∨n=1) with rfl|rfl
  ·have:Lib.swapperK 0 ie ke=1:=by simp[Lib.swapperK]
   rw[this]
   exact ⟨483,by kernel_rfl⟩
  ·have:Lib.swapperK 1 ie ke=2:=by simp[Lib.swapperK]
   rw[this]
   exact ⟨484,by kernel_rfl⟩
 obtain ⟨f,hf⟩:=hf
 refine ⟨f,fun w=>?_⟩
 rw[run_callFunc_extern Tryz.func428 (by kernel_rfl) (by kernel_rfl) (by kernel_rfl) (e:=Extern.ReflectliteSwapper.swapper "internal/reflectlite" (Extern.ReflectliteValue.valueError "Swapper")) (by kernel_rfl)]
 rw[Lib.run_swapper_slice t e i ie h1 h2 h4 ke h5 p n c f hf w,if_pos hk]
 rfl
theorem len_run{t:TypeId}(h:SortT t)(a:Addr)(p:Option Addr)(n c:Nat)(w:World)(ha:w.cell? a=some (.slice p n c)) :
  (callFunc 429 #[.agg #[typeHandle Tryz.prog t,.pointer (some a),.int .u64 151]]).run Tryz.prog w=.ok (.value (.int .i64 n)) w:=by
 obtain ⟨e,i,ie,ke,h1,h2,h3,h4,h5⟩:=h.row
 rw[run_callFunc_extern Tryz.func429 (by kernel_rfl) (by kernel_rfl) (by kernel_rfl) (e:=Extern.ReflectliteValue.method (Extern.ReflectliteValue.valueError "reflectlite.Value.Len" 0) Extern.ReflectliteValue.len) (by kernel_rfl)]
 rw[Lib.run_valueLen_slice t e i h1 h2 h3 a p n c w ha]
 rfl
theorem bits0:evFlat ev 20 264 [.lit (.int .u64 0)]=some (.int .i64 0):=by kernel_rfl
theorem bits1:evFlat ev 20 264 [.lit (.int .u64 1)]=some (.int .i64 1):=by kernel_rfl
theorem pdq0(g g2:Fn)(a b:Array Value)(l:Value):evFlat ev 20 430 [.agg [.lit (.func g a b),.lit (.func g2 #[] #[])],.lit (.int .i64 0),.lit (.int .i64 0),.lit l]=some (.tuple #[]):=by kernel_rfl
theorem pdq1(g g2:Fn)(a b:Array Value)(l:Value):evFlat ev 20 430 [.agg [.lit (.func g a b),.lit (.func g2 #[] #[])],.lit (.int .i64 0),.lit (.int .i64 1),.lit l]=some (.tuple #[]):=by kernel_rfl
theorem slice_ok{t:TypeId}(h:SortT t)(p:Option Addr)(n c:Nat)(hn:n≤1)(g:Fn)(a b:Array Value)(w:World) :
  Calls Tryz.prog 332 #[.iface t (.slice p n c),.func g a b] w (fun e w'=>e=.returned (.tuple #[])∧Below w.heap.size w w'):=by
 obtain ⟨lim,hbits,hpdq⟩:∃lim:Int,evFlat ev 20 264 [.lit (.int .u64 (n:Nat))]=some (.int .i64 lim)∧∀(g g2:Fn) (a b:Array Value) (l:Value),evFlat ev 20 430 [.agg [.lit (.func g a b),.lit (.func g2 #[] #[])],.lit (.int .i64 0),.lit (.int .i64 (n:Nat)),.lit l]=some (.tuple #[]):=by
  rcases (by omega:n=0∨n=1) with rfl|rfl
  ·exact ⟨0,bits0,pdq0⟩
  ·exact ⟨1,bits1,pdq1⟩
 have V:=valueOf_run h p n c
 obtain ⟨f,S⟩:=swapper_run h p n c hn
 have L:=fun (w:World) (x:Addr) (ha:w.cell? x=some (.slice p n c))=>len_run h x p n c w ha
 have hh:∃th,typeHandle Tryz.prog t=.pointer (some th):=⟨_,rfl⟩
 obtain ⟨th,hth⟩:=hh
 rw[hth] at V L
 have HB:=Lib.hid hbits
 have HP:=Lib.hid hpdq
 clear hbits hpdq
 go_enter Tryz.func332,Tryz.ntmps332
 go_wp2_with fail
 refine (evFlat_ok ev_ok HB.out (concs_flat _ [.int .u64 (n:Nat)] rfl) _).mono ?_
 rintro e w1 ⟨rfl,hb1⟩
 have H1:=Lib.hid hb1
 clear hb1
 go_wp2_with fail
 refine (evFlat_ok ev_ok (HP.out g (.func f) a b _) (concs_flat _ [.agg #[.func g a b,.func (.func f) #[] #[]],.int .i64 0,.int .i64 (n:Nat),.int .i64 lim] rfl) _).mono ?_
 rintro e w2 ⟨rfl,hb2⟩
 have H2:=Lib.hid hb2
 clear hb2
 go_wp2_with fail
 refine bodyPost_end (results_none rfl _ _ _) rfl ?_
 refine ⟨rfl,?_⟩
 have h0:=((Below.refl _ w).alloc (Nat.le_refl _) (.cells #[.slice p n c] t)).alloc (by simp) (.cells #[.pointer (some th),.pointer (some ⟨w.heap.size,0,none⟩),.int .u64 151] 498)
 exact (h0.trans (H1.out.mono h0.size)).trans (H2.out.mono (Nat.le_trans h0.size H1.out.size))
theorem sort_rec:SortT 24:=⟨72,Tryz.t24,Tryz.t72,25,by kernel_rfl,rfl,by kernel_rfl,by kernel_rfl,fun w=>by kernel_rfl⟩
theorem sort_shp:SortT 25:=⟨78,Tryz.t25,Tryz.t78,25,by kernel_rfl,rfl,by kernel_rfl,by kernel_rfl,fun w=>by kernel_rfl⟩
theorem sort_num:SortT 372:=⟨47,Tryz.t372,Tryz.t47,11,by kernel_rfl,rfl,by kernel_rfl,by kernel_rfl,fun w=>by kernel_rfl⟩
def small:AV→Bool
 | .lit (.slice none n _)=>Nat.ble n 1
 | .slice _ _ n _=>Nat.ble n 1
 | _=>false
def sortOv:Nat→List AV→Option AV:=fun f args=>match Nat.beq f 332 with
 | true=>match args with
   | [.iface t s,.func _ _ _]=>match small s&&memN [24,25,372] t with
     | true=>some (.lit (.tuple #[]))
     | false=>none
   | _=>none
 | false=>none
theorem sortOv_ok:∀f args v,sortOv f args=some v→∀(γ:Gam) (w:World) (xs:Array Value),Concs γ args xs.toList→(callFunc f xs).run Tryz.prog w=.ok (.enter f xs) w∧Calls Tryz.prog f xs w (fun e w'=>∃x,e=.returned x∧Conc γ v x∧Below w.heap.size w w'):=by
 intro f args v h γ w xs hx
 unfold sortOv at h
 split at h
 ·rename_i hf
  have hf:=Nat.eq_of_beq_eq_true hf
  subst hf
  split at h
  ·rename_i t s g l m
   split at h
   ·rename_i hb
    simp only[Option.some.injEq] at h
    subst h
    rw[Bool.and_eq_true] at hb
    have ht:SortT t:=by
     have:=memN_t.1 hb.2
     simp only[List.mem_cons,List.not_mem_nil,or_false] at this
     rcases this with rfl|rfl|rfl
     ·exact sort_rec
     ·exact sort_shp
     ·exact sort_num
    simp only[Concs] at hx
    obtain ⟨x,xs',e,hc,y,ys,rfl,hd,rfl⟩:=hx
    simp only[Conc] at hc hd
    obtain ⟨sv,rfl,hs⟩:=hc
    obtain ⟨a,b,rfl,_,_⟩:=hd
    have hsl:∃p n c,sv=.slice p n c∧n≤1:=by
     have hb:=hb.1
     unfold small at hb
     split at hb
     ·rw[conc_lit_iff] at hs
      exact ⟨_,_,_,hs,Nat.le_of_ble_eq_true hb⟩
     ·simp only[Conc] at hs
      obtain ⟨ad,cc,rfl,_⟩:=hs
      exact ⟨_,_,_,rfl,Nat.le_of_ble_eq_true hb⟩
     ·cases hb
    obtain ⟨p,n,c,rfl,hn⟩:=hsl
    obtain rfl:xs=#[.iface t (.slice p n c),.func g a b]:=Array.ext' e
    refine ⟨Tryz.call332 _ w,(slice_ok ht p n c hn g a b w).mono ?_⟩
    rintro e w' ⟨rfl,hb⟩
    exact ⟨_,rfl,conc_lit γ _,hb⟩
   ·cases h
  ·cases h
 ·cases h
def sortHv:Cb:=fun f args σ=>(sortOv f args).map fun v=>(v,σ)
theorem sortHv_ok:CbOk Tryz.prog sortHv:=fun f args σ v σ' h F γ w xs hR hx=>by
 unfold sortHv at h
 obtain ⟨u,h0,e⟩:=Option.map_eq_some_iff.1 h
 simp only[Prod.mk.injEq] at e
 obtain ⟨rfl,rfl⟩:=e
 obtain ⟨c1,c2⟩:=sortOv_ok f args u h0 γ w xs hx
 refine ⟨c1,fun R hRet=>c2.mono ?_⟩
 rintro e w' ⟨x,rfl,hc,hb⟩
 exact hRet γ x w' hc (hR.grown hb) (.refl γ _)
theorem known28:evFlatO ev sortHv 60 10 []=some (.bool true):=by kernel_rfl
theorem known28_ok(w:World):Calls Tryz.prog 10 #[] w (fun e w'=>e=.returned (.bool true)∧Below w.heap.size w w'):=
 evFlatO_ok ev_ok sortHv_ok known28 (concs_flat [] [] rfl) w
end Go.Proofs.YtmbdghclhpboaaaGreat
namespace Go.Proofs.YtmbdghclhpboaaaGreat.Ev
open Go.RowKit
theorem rel_emp(w:World):RelL ⟨w,fun _=>False⟩ emp (hp []) w:=
 ⟨⟨fun _ _=>rfl,fun o p h=>by simp[emp] at h,fun o h=>by simp[emp] at h,fun o o' p p' h=>by simp[emp] at h,Nat.zero_le _⟩,fun o p h=>by simp[emp] at h,⟨rfl,rfl,rfl,Nat.le_refl _,fun _ h=>h.elim,fun _ h=>h.elim,fun o p h=>by simp[emp] at h⟩⟩
theorem CallS.calls{P:Program}{f:Nat}{args:List AV}{xs:List Value}{K:AV→List AObj→Prop}{w:World}(c:CallP P f args [.res (SnapR 0 w)] K)(ha:AV.flats args=some xs)(hk:∀v H',K v H'→v=.lit (.bool true)∧∃G,H'=.res (SnapR 0 w)::G):Calls P f xs.toArray w (fun e w'=>e=.returned (.bool true)∧Below w.heap.size w w'):=by
 obtain ⟨h1,h2,h3⟩:=add_res (R:=SnapR 0 w) (S:=fun b=>b<w.heap.size) (T:=fun _=>False) (rel_emp w) (by decide) (fun _ h=>h) (fun _ h=>h.elim) ⟨fun b=>by simp,fun _ _ _=>rfl⟩ (fun b hb=>⟨fun h=>h,fun h=>h,fun o p h=>by simp[emp] at h⟩)
 obtain ⟨_,c2⟩:=c.out _ _ w xs.toArray h1 (fun o ho _=>by
  have:o=0:=by simpa using ho
  subst this
  rw[show (0:Nat)=([]:List AObj).length from rfl,upd_self]
  simp) h2 (by simpa using concs_flat args xs ha)
 refine c2 _ fun v H' γ' x w' k1 k2 k3=>?_
 obtain ⟨rfl,G,rfl⟩:=hk v H' k1
 simp only[Conc] at k2
 subst k2
 refine ⟨rfl,?_⟩
 have hF:=k3.rel.frame
 obtain ⟨T,hT,_⟩:=k3.rs.out
 obtain ⟨S1,_,hs,_⟩:=hT
 exact ⟨hF.os,hF.tape,hF.output,hF.size,fun b hb=>hs.2 b (Nat.zero_le _) hb⟩
end Go.Proofs.YtmbdghclhpboaaaGreat.Ev
namespace Go.Proofs.YtmbdghclhpboaaaGreat
open Ev
theorem rknown28{S:List Nat}{H:List AObj}{K:AV→List AObj→Prop}(k:K (bA true) H):CP S 10 [] H K:=CallS.of_calls ev_ok rfl rfl known28_ok k
def fewB(q:Sta):Bool:=decide ((q.ms.length:Int)≤30)&&(decide ((q.nt:Int)≤30)&&(decide ((q.rs.length:Int)≤30)&&(decide ((q.ss.length:Int)≤30)&&decide ((q.es.length:Int)≤100))))
theorem few_le{q:Sta}(h:fewB q=true):q.ms.length≤30∧q.nt≤30∧q.rs.length≤30∧q.ss.length≤30∧q.es.length≤100:=by
 unfold fewB at h
 simp only[Bool.and_eq_true,decide_eq_true_eq] at h
 omega
theorem rfew{S:List Nat}{H:List AObj}{K:AV→List AObj→Prop}{q:Sta}(k:K (bA (fewB q)) H):CP S 9 [.agg q.a] H K:=by
 refine CallS.pure ?_ (fun _=>rfl) (fun _=>rfl) k
 refine fn_ok ev_ok rfl ?_
 repeat' ((conv=>whnf);with_reducible apply brP_of<;>intro _)
 all_goals (try conv=>whnf)
 all_goals refine bA_eq ?_
 all_goals unfold fewB
 all_goals simp_all
 all_goals omega
theorem own_rst{A:Addr}{n:Nat}{l:List UInt8}(h:∃b off,A=⟨b,off,none⟩∧l.length≤n):(⟨some A,n,l,false⟩:Rst).Ok (OwnR byC 1 tBy (.slice (some A) l.length n) l) where
 nil:=fun h=>by simp only[] at h;cases h
 lie:=fun a ha=>by
  obtain ⟨b,off,rfl,hn⟩:=h
  simp only[Option.some.injEq] at ha
  subst ha
  refine ⟨b,off,rfl,hn,fun w S hw=>?_⟩
  by_cases hl:l=[]
  ·subst hl
   exact fun j u hj=>by simp at hj
  ·obtain ⟨b',off',e,_,hlay⟩:=own_lay hw.1 hl
   simp only[Option.some.injEq,Addr.mk.injEq] at e
   obtain ⟨rfl,rfl,_⟩:=e
   exact hlay
theorem own_know{A:Addr}{n:Nat}{l:List UInt8}(hne:l≠[])(w:World)(S:Nat→Prop)(h:(OwnR byC 1 tBy (.slice (some A) l.length n) l).at_ w S):∃b off,A=⟨b,off,none⟩∧l.length≤n:=by
 obtain ⟨b,off,e,_,_⟩:=own_lay h.1 hne
 obtain ⟨A',m,e2,hm,_⟩:=h.1.sl
 injection e with e
 injection e2 with e3 e4 e5
 exact ⟨b,off,e,by omega⟩
theorem x_self(x:StaX):StaOf x x.q x.tk:=⟨rfl,by unfold StaX.tk;rw[List.map_map];rfl,rfl,rfl,rfl,rfl,rfl⟩
theorem dec_of{oa:Option Addr}{c:Nat}{q:Sta}{tk:List TkS}(hn:q.nt=tk.length)(ho:StOk q tk)(hi:impOk q tk=true):DecOk ⟨oa,c,staB q tk,false⟩∧∀{q':Sta} {tk':List TkS},StaOf (Rst.sta ⟨oa,c,staB q tk,false⟩).1 q' tk'→SameS q tk q' tk':=by
 have hp:q.past≤4611686018427387903:=by
  unfold impOk at hi
  rw[Bool.and_eq_true] at hi
  have h1:=hi.1
  unfold Sta.sound at h1
  rw[Bool.and_eq_true] at h1
  exact (of_decide_eq_true h1.1).2.2
 obtain ⟨s',e,hb⟩:=sta_read (s:=⟨oa,c,staB q tk,false⟩) rfl rfl ho hp
 have hs:=same_of ho (x_self ⟨q.ms.zip (tk.map TkS.l),q.rs,q.ss,q.s,q.es,q.past.toNat⟩)
 refine ⟨⟨?_,?_,?_⟩,fun h=>?_⟩
 ·rw[e];exact hb
 ·rw[e]
  rw[impOk_same hs hn (x_nt _)]
  exact hi
 ·rw[e]
  exact staB_same hs
 ·rw[e] at h
  exact same_of ho h
theorem tk_len{q:Sta}{tk:List TkS}(ho:StOk q tk):∀x∈tk,x.l.length≤8:=fun x hx=>by
 obtain ⟨i,hi,rfl⟩:=List.getElem_of_mem hx
 exact (ho.ms i (by rw[←ho.tl];exact hi) hi).2.2.1
theorem sback{R:Res}{q:Sta}{tk:List TkS}(h:q.Rd R)(hk:q.Tk R tk)(hA:∀m∈q.ms,0≤m.area∧m.area<18446744073709551616):CP [] 4 [.agg q.a] [.res R] (fun v H'=>v=bA true∧∃G,H'=.res R::G):=by
 obtain ⟨fb,hfb⟩:∃fb,fb=fewB q:=⟨_,rfl⟩
 refine fn_ok ev_ok rfl ?_
 refine FnW.of rfl rfl ?_
 refine WpC.seqG fun F hF=>?_
 repeat' ((conv=>whnf);first|(show F _ _ _;subst hF;refine WpC.seqG fun F hF=>?_)|(show F _ _ _;subst hF))
 conv=>whnf
 refine rfew ?_
 rw[←hfb]
 conv=>whnf
 cases hfv:fb with
 | false=>
   repeat' ((conv=>whnf);first|(show F _ _ _;subst hF;refine WpC.seqG fun F hF=>?_)|(show F _ _ _;subst hF)|refine rknown28 ?_)
   all_goals (try conv=>whnf)
   exact ⟨rfl,_,rfl⟩
 | true=>
   obtain ⟨l0,lt,l1,l2,l3⟩:=few_le (by rw[←hfb];exact hfv)
   have hst:impOk q tk=true→StOk q tk:=fun hi=>stOk_of hk (by omega) (by omega) (by omega) (by omega) hA hi
   repeat' ((conv=>whnf);first|(show F _ _ _;subst hF;refine WpC.seqG fun F hF=>?_)|(show F _ _ _;subst hF))
   conv=>whnf
   refine (sencode h hk (by omega) (by omega) (by omega) (by omega) hst).use [0] rfl rfl ⟨⟨_,rfl,kp⟩,tU⟩ ?_
   rintro _ _ (⟨i1,rfl,G2,rfl⟩|⟨i1,i2,rfl,G2,rfl⟩|⟨i1,i2,A,n,rfl,Ga,Gb,G2,rfl⟩)
   ·refine ⟨[],?_⟩
    repeat' ((conv=>whnf);first|(show F _ _ _;subst hF;refine WpC.seqG fun F hF=>?_)|(show F _ _ _;subst hF)|refine rknown28 ?_)
    all_goals (try conv=>whnf)
    exact ⟨rfl,_,rfl⟩
   ·refine ⟨[],?_⟩
    repeat' ((conv=>whnf);first|(show F _ _ _;subst hF;refine WpC.seqG fun F hF=>?_)|(show F _ _ _;subst hF)|refine rknown28 ?_)
    all_goals (try conv=>whnf)
    exact ⟨rfl,_,rfl⟩
   ·have ho:=hst i1
    obtain ⟨hdo,hsame⟩:=dec_of (oa:=some A) (c:=n) hk.nt ho i1
    have hne:staB q tk≠[]:=sta_ne
    obtain ⟨d,hd⟩:∃d,d=staB q tk:=⟨_,rfl⟩
    rw[←hd] at i2 hdo hsame hne ⊢
    refine ⟨[3],?_⟩
    repeat' ((conv=>whnf);first|(show F _ _ _;subst hF;refine WpC.seqG fun F hF=>?_)|(show F _ _ _;subst hF))
    conv=>whnf
    refine CallS.know 2 rfl (own_know hne) fun hq=>?_
    refine (rdecode (own_rst hq)).use [2] rfl rfl ⟨⟨_,rfl,kp⟩,tU⟩ ?_
    rintro _ _ (⟨j1,_⟩|⟨_,j2,_⟩|⟨j1,j2,q',tk',RR,hst',hrd',htk',rfl,G3,G4,G5,rfl⟩)
    ·exact absurd j1 (by show ¬65536<d.length;omega)
    ·exact absurd hdo j2
    ·have hss:=hsame hst'
     refine ⟨[3],?_⟩
     repeat' ((conv=>whnf);first|(show F _ _ _;subst hF;refine WpC.seqG fun F hF=>?_)|(show F _ _ _;subst hF))
     conv=>whnf
     refine (rsameS2 h hk hrd' htk' hss (by omega) (by omega) (by omega) (by omega) (by omega) (fun x hx=>Nat.le_trans (tk_len ho x hx) (by decide))).use [0,3] rfl rfl ⟨⟨_,rfl,kp⟩,⟨_,rfl,kp⟩,tU⟩ ?_
     rintro _ _ ⟨rfl,G6,rfl⟩
     refine ⟨[],?_⟩
     repeat' ((conv=>whnf);first|(show F _ _ _;subst hF;refine WpC.seqG fun F hF=>?_)|(show F _ _ _;subst hF)|refine rknown28 ?_)
     all_goals (try conv=>whnf)
     exact ⟨rfl,_,rfl⟩
end Go.Proofs.YtmbdghclhpboaaaGreat
namespace Go.Proofs.YtmbdghclhpboaaaGreat
open Go.RowKit Go.ChangeShapes Go.WideShapes Go.Deep
theorem lay_join{α:Type}{k:Nat}{enc:α→List Value}(hk:∀a,(enc a).length=k){w:World}{b:Nat}:∀(l:List α) (off:Nat),(∀i (hi:i<l.length),Lay w b (off+i * k) (enc l[i]))→Lay w b off (l.flatMap enc)
 | [],off,_=>fun j u hu=>by simp at hu
 | a::l,off,h=>fun j u hu=>by
   rw[List.flatMap_cons] at hu
   by_cases hj:j<(enc a).length
   ·rw[List.getElem?_append_left hj] at hu
    have:=h 0 (by simp) j u hu
    simpa using this
   ·rw[List.getElem?_append_right (by omega)] at hu
    have h2:Lay w b (off+k) (l.flatMap enc):=lay_join hk l (off+k) fun i hi=>by
     have:=h (i+1) (by simpa using hi)
     rw[show off+k+i * k=off+(i+1) * k by rw[Nat.add_mul];omega]
     simpa using this
    have:=h2 _ u hu
    rw[hk] at this
    rwa [show off+k+(j - k)=off+j by have:=hk a;omega] at this
theorem add_form{a:Addr}{w:World}{j:Nat}{u:Value}(h:w.cell? a=some u):a.add j=⟨a.block,a.off+j,none⟩∧a.spot=none:=by
 obtain ⟨b,off,sp⟩:=a
 have hs:sp=none:=by
  cases sp with
  | none=>rfl
  | some s=>
    unfold World.cell? at h
    split at h<;>simp at h
 subst hs
 refine ⟨?_,rfl⟩
 unfold Addr.add
 split<;>simp_all
section
variable{H:Type}{enc:TypeId×Value→H}{P:Program}{w:World}{base:Nat}{spare:Nat→Bool}{held:Bool}
end
def Holds(w:World)(e:Ending)(w':World):Prop:=e=.returned (.bool true)∧Below w.heap.size w w'
section
variable{H:Type}{enc:TypeId×Value→H}{P:Program}
theorem trodAll_len{w:World}{base:Nat}{spare:Nat→Bool}{held:Bool}:∀(ts:List TypeId) {vs:List Value} {ds:List (DataW H)} {ps:List MemPlace},DataW.TrodAll enc P w base spare held ts vs ds ps→ds.length=ts.length
 | [],_,_,_,h=>by obtain ⟨_,rfl,_⟩:=trodAll_nil h;rfl
 | t::ts,_,_,_,h=>by
   obtain ⟨v,vs,d,ds,p,q,rfl,rfl,rfl,h1,h2⟩:=trodAll_cons h
   simp[trodAll_len ts h2]
theorem trodAll_stays(hl:laidOutB P=true){W W':World}{sp:Nat→Bool}:∀(ts:List TypeId) {vs:List Value} {ds:List (DataW H)} {ps:List MemPlace},(∀t∈ts,P.readableRec t=true∧t<P.types.size) →
  DataW.TrodAll enc P W 0 (fun _=>true) true ts vs ds ps→(∀p∈ps,W.sameAt W' p)→(∀p∈ps,sp p.block=true)→DataW.TrodAll enc P W' 0 sp true ts vs ds ps
 | [],_,_,_,_,h,_,_=>by
   obtain ⟨rfl,rfl,rfl⟩:=trodAll_nil h
   exact trodAll_mk0
 | t::ts,_,_,_,hts,h,hsame,hs=>by
   obtain ⟨v,vs,d,ds,p,q,rfl,rfl,rfl,h1,h2⟩:=trodAll_cons h
   obtain ⟨hr,hrow⟩:=hts t (List.mem_cons_self ..)
   exact ⟨p,q,WideElems.Trod_stays hl hr hrow h1 (fun x hx=>hsame x (List.mem_append.2 (.inl hx))) (fun x hx=>hs x (List.mem_append.2 (.inl hx))),
    trodAll_stays hl ts (fun t ht=>hts t (List.mem_cons_of_mem _ ht)) h2 (fun x hx=>hsame x (List.mem_append.2 (.inr hx))) (fun x hx=>hs x (List.mem_append.2 (.inr hx))),rfl⟩
theorem law_post(hl:laidOutB P=true){f:Func}{s:ChangeSpec}{apart fresh handsOn:Bool}{W W':World}{args:Array Value}{ds gs:List (DataW H)}{before:List MemPlace}{tb:TypeId}
  (hb:P.underlying tb=some .bool) (hr:f.resultTypes=#[tb]) (hts:∀t∈f.params.toList,P.readableRec t=true∧t<P.types.size) (hv:s.vars=[])
  (hspec:∀ds:List (DataW H),ds.length=f.params.toList.length→(s.fn H ds).results=[.lit (.bool true)]∧(s.fn H ds).args=ds∧(s.fn H ds).vars=[])
  (hW:DataW.Whole enc P f.params.toList s.vars apart W args.toList ds gs before) (hbel:Below W.heap.size W W'):s.post enc P f apart fresh handsOn false W args (.bool true) W':=by
 have hlt:∀p∈before,p.block<W.heap.size:=fun p hp=>hW.lt p hp
 have hW0:=hW
 obtain ⟨p,q,hA,hV,rfl,hfz,hnd⟩:=hW
 rw[hv] at hV
 obtain ⟨rfl,rfl⟩:=trodVars_none hV
 simp only[List.append_nil] at hlt
 obtain ⟨e1,e2,e3⟩:=hspec ds (trodAll_len _ hA)
 refine ⟨ds,[],p++[],[],p,[],hW0,?_,?_,?_,?_,fun h=>by cases h⟩
 ·rw[List.append_nil,e1,hr]
  exact trodAll_mk1 ⟨1,by simp[DataW.trod,Value.cells,hb]⟩
 ·rw[List.append_nil,e2]
  exact trodAll_stays hl _ hts hA (fun x hx=>hbel.same (hlt x hx)) (fun x hx=>by simpa using hlt x hx)
 ·rw[List.append_nil,e3,hv]
  trivial
 ·exact World.keptBut_mono (fun x hx=>⟨hx,.inr (.inl (by simpa using hx))⟩) (hbel.frame (·∈p++[]))
theorem law_lifts{C:Checked}(own:ownKnob C.prog.godebug=none)(hl:laidOutB C.prog=true){os:Os}(started:os.Started){f:FuncId}{fn:Func}{s:ChangeSpec}{apart fresh handsOn:Bool}{tb:TypeId}
  (noInit:C.prog.inits.idxOf? f=none) (hfn:C.prog.funcs[f]?=some fn)
  (hb:C.prog.underlying tb=some .bool) (hr:fn.resultTypes=#[tb]) (hts:∀t∈fn.params.toList,C.prog.readableRec t=true∧t<C.prog.types.size) (hv:s.vars=[])
  (hspec:∀ds:List (DataW H),ds.length=fn.params.toList.length→(s.fn H ds).results=[.lit (.bool true)]∧(s.fn H ds).args=ds∧(s.fn H ds).vars=[])
  (witness:∃(w:World) (tape:Tape) (i:Input),w.os=os∧(w.forCall tape i).Shaped C.prog∧i.vars=[]∧Input.okWide C.prog (w.forCall tape i) .any w.heap.size f i ∧
   s.pre6 enc C.prog fn [] apart (w.forCall tape i).memory i.args∧({}:Assume).holds C.prog (lone (Frame.enter C.prog f i.args .normal) [] (w.forCall tape i)))
  (contract:∀(W:World) (base:Nat) (args:Array Value) (ds:List (DataW H)) (ps:List MemPlace),
   (∀(j:Nat) t v,fn.params[j]?=some t→args[j]?=some v→Value.okWide C.prog W .any base t v) →
   DataW.TrodAll enc C.prog W 0 (fun _=>true) true fn.params.toList args.toList ds ps→Calls C.prog f args W (Holds W)) :
  ReturnsInHanded {} C os f .any (s.pre6 enc C.prog fn [] apart) (s.post enc C.prog fn apart fresh handsOn false):=by
 refine returnsInHanded_of_change own started noInit hfn witness ?_
 intro W base args ds gs before hval hW _ _
 have hW0:=hW
 obtain ⟨p,q,hA,hV,rfl,hfz,hnd⟩:=hW
 exact (contract W base args ds p hval hA).mono fun e W' ⟨he,hbel⟩=>⟨_,he,law_post hl hb hr hts hv hspec hW0 hbel⟩
end
end Go.Proofs.YtmbdghclhpboaaaGreat
