/- Part of the proof: PolS RulC PolP3 Rul4 Grt. Conditions: as each states. -/
import Derived.Test.YtmbdghclhpboaaaGreatPb34
set_option linter.all false
set_option maxRecDepth 100000
namespace Go.Proofs.YtmbdghclhpboaaaGreat
open Ev
theorem slexname{S:List Nat}{H:List AObj}{K:AV→List AObj→Prop}{s:List UInt8}(k:K (bA (nameB s)) H):CP S 408 [.lit (stK s)] H K:=CallS.of_calls ev_ok rfl rfl (lexname_ok s) k
theorem rens_map0(g:Nat→Nat):∀l:List Int,AV.rens g (l.map iA)=l.map iA
 | []=>rfl
 | a::l=>by rw[List.map_cons,AV.rens,rens_map0 g l];rfl
def inB(n:Int):Bool:=decide (0≤n)&&decide (n≤65535)
theorem snumbers{l:List Int}{T:TypeId}(hl:l.length≤1000):CP [] 409 [.slice 0 0 l.length (.k l.length)] [.cells (l.map iA) T] (fun v H'=>v=bA (l.all inB)∧∃G,H'=.cells (l.map iA) T::G):=by
 refine fn_ok ev_ok rfl ?_
 conv=>whnf
 refine loopP ev_ok rfl (fun k:Nat=>[(5,.slice 0 0 l.length (.k l.length)),(6,iA l.length),(7,iA (k:Nat))]) (fun _=>[.cells (l.map iA) T]) (fun k=>k≤l.length∧l.all inB=(l.drop k).all inB) (fun k=>l.length - k) 0 ⟨Nat.zero_le _,rfl⟩ [0] ?_ ?_
 ·exact ⟨rfl,⟨⟨rfl,rfl⟩,⟨rfl,rfl⟩,⟨rfl,rfl⟩,tU⟩,⟨⟨_,rfl,by
   show vw (.cells (l.map iA) T)=vw (.cells (AV.rens _ (l.map iA)) T)
   rw[rens_map0]⟩,tU⟩⟩
 ·rintro k ⟨hk0,hr⟩
  by_cases hk:k<l.length
  ·rw[List.drop_eq_getElem_cons hk,List.all_cons] at hr
   have hget:(l.map iA)[0+k * 1]?=some (iA l[k]):=by simp[hk]
   conv=>whnf
   refine brP_of (fun _=>?_) (noF hk)
   repeat' ((conv=>whnf);first|with_reducible apply brP_of<;>intro _|refine IdxP.of (k:=k) rfl hk ?_|rw[hget])
   all_goals (try conv=>whnf)
   ·rename_i hx
    have hx:=of_decide_eq_true hx
    exact ⟨bA_eq (by rw[hr];unfold inB;rw[decide_eq_false (by omega)];rfl),[],rfl⟩
   ·rename_i hx hy
    have hy:=of_decide_eq_true hy
    exact ⟨bA_eq (by rw[hr];unfold inB;rw[decide_eq_false (p:=l[k]≤65535) (by omega),Bool.and_false];rfl),[],rfl⟩
   ·rename_i hx hy
    have hx:=of_decide_eq_false hx
    have hy:=of_decide_eq_false hy
    have e:inB l[k]=true:=by unfold inB;rw[decide_eq_true (by omega),decide_eq_true (by omega)];rfl
    rw[e,Bool.true_and] at hr
    exact ⟨k+1,[0],⟨⟨hk,hr⟩,by omega⟩,rfl,⟨⟨rfl,rfl⟩,⟨rfl,rfl⟩,⟨rfl,subInt rfl (wrap_in (by omega) (by omega))⟩,tU⟩,⟨⟨_,rfl,by
     show vw (.cells (l.map iA) T)=vw (.cells (AV.rens _ (l.map iA)) T)
     rw[rens_map0]⟩,tU⟩⟩
  ·obtain rfl:k=l.length:=by omega
   rw[List.drop_length] at hr
   conv=>whnf
   refine brP_of (noT hk) (fun _=>?_)
   repeat' ((conv=>whnf);with_reducible apply brP_of<;>intro _)
   all_goals (try conv=>whnf)
   exact ⟨bA_eq (by rw[hr];rfl),[],rfl⟩
theorem bA_of{a b:Bool}(h:a=b):AV.lit (.bool a)=bA b:=by rw[h]
theorem inB_nat{n:Nat}:inB (n:Int)=decide (n≤65535):=by
 unfold inB
 rw[decide_eq_true (by omega),Bool.true_and]
 exact decide_eq_decide.2 ⟨fun h=>by omega,fun h=>by omega⟩
theorem szero{S:List Nat}{H:List AObj}{K:AV→List AObj→Prop}{x:Who}(k:K (bA (whoZ x)) H):CP S 410 [.agg (wA x)] H K:=by
 refine CallS.pure ?_ (fun _=>rfl) (fun _=>rfl) k
 refine fn_ok ev_ok rfl ?_
 repeat' ((conv=>whnf);with_reducible apply brP_of<;>intro _)
 all_goals (try conv=>whnf)
 all_goals refine bA_of ?_
 all_goals unfold whoZ
 all_goals simp_all [ByteArray.toList_eq]
theorem swho{S:List Nat}{H:List AObj}{K:AV→List AObj→Prop}{x:Who}(k:K (bA (whoR x)) H):CP S 415 [.agg (wA x)] H K:=by
 refine CallS.pure ?_ (fun _=>rfl) (fun _=>rfl) k
 obtain ⟨b,hb⟩:∃b,b=nameB x.name:=⟨_,rfl⟩
 have hnm:∀{S:List Nat} {H:List AObj} {K:AV→List AObj→Prop},K (bA b) H→CP S 408 [.lit (stK x.name)] H K:=fun k=>slexname (hb ▸ k)
 refine fn_ok ev_ok rfl ?_
 repeat' ((conv=>whnf);first|with_reducible apply brP_of<;>intro _|refine hnm ?_|(refine (snumbers (l:=[(x.n:Int)]) (T:=3) (by simp)).use [1] rfl rfl ⟨⟨_,rfl,rfl⟩,tU⟩ ?_;rintro _ _ ⟨rfl,G,rfl⟩;rw[List.all_cons,List.all_nil,Bool.and_true,inB_nat];refine ⟨[],?_⟩))
 all_goals (try conv=>whnf)
 all_goals refine bA_of ?_
 all_goals unfold whoR
 all_goals simp_all [ByteArray.toList_eq]
theorem splace{S:List Nat}{H:List AObj}{K:AV→List AObj→Prop}{x:Who}(k:K (bA (whoP x)) H):CP S 479 [.agg (wA x)] H K:=by
 refine CallS.pure ?_ (fun _=>rfl) (fun _=>rfl) k
 obtain ⟨b,hb⟩:∃b,b=whoR x:=⟨_,rfl⟩
 have hr:∀{S:List Nat} {H:List AObj} {K:AV→List AObj→Prop},K (bA b) H→CP S 415 [.agg (wA x)] H K:=fun k=>swho (hb ▸ k)
 refine fn_ok ev_ok rfl ?_
 repeat' ((conv=>whnf);first|with_reducible apply brP_of<;>intro _|refine hr ?_)
 all_goals (try conv=>whnf)
 all_goals refine bA_of ?_
 all_goals unfold whoP
 all_goals simp_all [ByteArray.toList_eq]
theorem snorule{S:List Nat}{H:List AObj}{K:AV→List AObj→Prop}{d:Dc}{v:Value}(k:K (bA (noRule d)) H):CP S 411 [.agg (dA d v)] H K:=by
 refine CallS.pure ?_ (fun _=>rfl) (fun _=>rfl) k
 obtain ⟨b,hb⟩:∃b,b=whoZ d.label:=⟨_,rfl⟩
 obtain ⟨c,hc⟩:∃c,c=whoZ d.wh:=⟨_,rfl⟩
 have h1:∀{S:List Nat} {H:List AObj} {K:AV→List AObj→Prop},K (bA b) H→CP S 410 [.agg (wA d.label)] H K:=fun k=>szero (hb ▸ k)
 have h2:∀{S:List Nat} {H:List AObj} {K:AV→List AObj→Prop},K (bA c) H→CP S 410 [.agg (wA d.wh)] H K:=fun k=>szero (hc ▸ k)
 refine fn_ok ev_ok rfl ?_
 repeat' ((conv=>whnf);first|with_reducible apply brP_of<;>intro _|refine h1 ?_|refine h2 ?_)
 all_goals (try conv=>whnf)
 all_goals refine bA_of ?_
 all_goals unfold noRule
 all_goals simp_all
 all_goals omega
theorem snoname{S:List Nat}{H:List AObj}{K:AV→List AObj→Prop}{d:Dc}{A:Option Addr}{m:Nat}(k:K (bA (noName d)) H):CP S 413 [.agg (dA d (.slice A d.boxes.length m))] H K:=by
 refine CallS.pure ?_ (fun _=>rfl) (fun _=>rfl) k
 refine fn_ok ev_ok rfl ?_
 repeat' ((conv=>whnf);with_reducible apply brP_of<;>intro _)
 all_goals (try conv=>whnf)
 all_goals refine bA_of ?_
 all_goals unfold noName
 all_goals simp_all [ByteArray.toList_eq]
theorem srule{S:List Nat}{H:List AObj}{K:AV→List AObj→Prop}{d:Dc}{v:Value}(k:K (bA (ruleR d)) H):CP S 414 [.agg (dA d v)] H K:=by
 refine CallS.pure ?_ (fun _=>rfl) (fun _=>rfl) k
 obtain ⟨b,hb⟩:∃b,b=whoR d.role:=⟨_,rfl⟩
 obtain ⟨c,hc⟩:∃c,c=whoR d.label:=⟨_,rfl⟩
 obtain ⟨e,he⟩:∃e,e=whoP d.wh:=⟨_,rfl⟩
 obtain ⟨f,hf⟩:∃f,f=decide (d.lo≤65535∧d.hi≤65535∧d.zoom≤65535):=⟨_,rfl⟩
 have h1:∀{S:List Nat} {H:List AObj} {K:AV→List AObj→Prop},K (bA b) H→CP S 415 [.agg (wA d.role)] H K:=fun k=>swho (hb ▸ k)
 have h2:∀{S:List Nat} {H:List AObj} {K:AV→List AObj→Prop},K (bA c) H→CP S 415 [.agg (wA d.label)] H K:=fun k=>swho (hc ▸ k)
 have h3:∀{S:List Nat} {H:List AObj} {K:AV→List AObj→Prop},K (bA e) H→CP S 479 [.agg (wA d.wh)] H K:=fun k=>splace (he ▸ k)
 have hn:[(d.lo:Int),(d.hi:Int),(d.zoom:Int)].all inB=f:=by
  rw[hf,List.all_cons,List.all_cons,List.all_cons,List.all_nil,inB_nat,inB_nat,inB_nat,Bool.and_true,Bool.decide_and,Bool.decide_and]
 have h4:=snumbers (l:=[(d.lo:Int),(d.hi:Int),(d.zoom:Int)]) (T:=3) (by simp)
 rw[hn] at h4
 refine fn_ok ev_ok rfl ?_
 repeat' ((conv=>whnf);first|with_reducible apply brP_of<;>intro _|refine h1 ?_|refine h2 ?_|refine h3 ?_|(refine h4.use [1] rfl rfl ⟨⟨_,rfl,rfl⟩,tU⟩ ?_;rintro _ _ ⟨rfl,G,rfl⟩;refine ⟨[],?_⟩))
 all_goals (try conv=>whnf)
 all_goals refine bA_of ?_
 all_goals unfold ruleR
 all_goals rw[←hb,←hc,←he,←hf]
 all_goals simp_all
theorem sboxes{R:Res}{A:Option Addr}{m:Nat}{l:List Bx}(h:BxR R A l)(hl:l.length≤1000000):CP [] 412 [.lit (.slice A l.length m)] [.res R] (fun v H'=>v=bA (boxesR l)∧∃G,H'=.res R::G):=by
 have hbx:∀b:Bx,[(b.x0:Int),(b.y0:Int),(b.x1:Int),(b.y1:Int)].all inB=decide (b.x0≤65535∧b.y0≤65535∧b.x1≤65535∧b.y1≤65535):=fun b=>by
  rw[List.all_cons,List.all_cons,List.all_cons,List.all_cons,List.all_nil,inB_nat,inB_nat,inB_nat,inB_nat,Bool.and_true,Bool.decide_and,Bool.decide_and,Bool.decide_and]
 obtain ⟨p,hp⟩:∃p:Bx→Bool,p=fun b=>decide (b.x0≤65535∧b.y0≤65535∧b.x1≤65535∧b.y1≤65535):=⟨_,rfl⟩
 have hbp:∀b:Bx,[(b.x0:Int),(b.y0:Int),(b.x1:Int),(b.y1:Int)].all inB=p b:=fun b=>by rw[hp];exact hbx b
 have hB:boxesR l=(l.all p&&decide (l≠[])):=by rw[hp];rfl
 rw[hB]
 clear hbx hp hB
 refine fn_ok ev_ok rfl ?_
 conv=>whnf
 refine loopP ev_ok rfl (fun k:Nat=>[(0,.lit (.slice A l.length m)),(5,.lit (.slice A l.length m)),(6,iA l.length),(7,iA (k:Nat))]) (fun _=>[.res R]) (fun k=>k≤l.length∧l.all p=(l.drop k).all p) (fun k=>l.length - k) 0 ⟨Nat.zero_le _,rfl⟩ [0] ?_ ?_
 ·exact ⟨rfl,⟨⟨rfl,rfl⟩,⟨rfl,rfl⟩,⟨rfl,rfl⟩,⟨rfl,rfl⟩,tU⟩,⟨⟨_,rfl,kp⟩,tU⟩⟩
 ·rintro k ⟨hk0,hr⟩
  by_cases hk:k<l.length
  ·obtain ⟨a,rfl,hrd⟩:=h.rd.at hk
   rw[List.drop_eq_getElem_cons hk,List.all_cons] at hr
   have hn:=snumbers (l:=[(l[k].x0:Int),(l[k].y0:Int),(l[k].x1:Int),(l[k].y1:Int)]) (T:=3) (by simp)
   rw[hbp] at hn
   conv=>whnf
   refine brP_of (fun _=>?_) (noF hk)
   repeat' ((conv=>whnf);first|with_reducible apply brP_of<;>intro _|refine OpP.idxL ev_ok rfl rfl rfl rfl rfl hk ?_|refine OpP.loadR (i:=0) (v:=.agg ((bxC l[k]).map .lit)) rfl (fun w S hR=>hrd w S hR k hk) rfl rfl ?_|(refine hn.use [2] rfl rfl ⟨⟨_,rfl,rfl⟩,tU⟩ ?_;rintro _ _ ⟨rfl,G,rfl⟩;refine ⟨[],?_⟩))
   all_goals (try conv=>whnf)
   ·rename_i hx
    exact ⟨k+1,[0],⟨⟨hk,by rw[hr,hx,Bool.true_and]⟩,by omega⟩,rfl,⟨⟨rfl,rfl⟩,⟨rfl,rfl⟩,⟨rfl,rfl⟩,⟨rfl,subInt rfl (wrap_in (by omega) (by omega))⟩,tU⟩,⟨⟨_,rfl,kp⟩,tU⟩⟩
   ·rename_i hx
    exact ⟨bA_eq (by rw[hr,hx];rfl),_,rfl⟩
  ·obtain rfl:k=l.length:=by omega
   rw[List.drop_length] at hr
   conv=>whnf
   refine brP_of (noT hk) (fun _=>?_)
   repeat' ((conv=>whnf);with_reducible apply brP_of<;>intro _)
   all_goals (try conv=>whnf)
   all_goals refine ⟨bA_of ?_,_,rfl⟩
   ·rename_i hx
    have hx:=of_decide_eq_true hx
    have hne:l≠[]:=fun e=>by rw[e] at hx;simp at hx
    rw[hr]
    simp[hne]
   ·rename_i hx
    have hx:=of_decide_eq_false hx
    have hne:l=[]:=List.eq_nil_of_length_eq_zero (by omega)
    simp[hne]
theorem beqN{n k:Nat}:(((n:Int)==(k:Int)):Bool)=decide (n=k):=by
 rw[Bool.eq_iff_iff,beq_iff_eq,decide_eq_true_iff]
 omega
theorem beqN0{n:Nat}:(((n:Int)==0):Bool)=decide (n=0):=beqN (k:=0)
theorem beqN1{n:Nat}:(((n:Int)==1):Bool)=decide (n=1):=beqN (k:=1)
theorem beqN2{n:Nat}:(((n:Int)==2):Bool)=decide (n=2):=beqN (k:=2)
theorem beqN3{n:Nat}:(((n:Int)==3):Bool)=decide (n=3):=beqN (k:=3)
theorem beqN4{n:Nat}:(((n:Int)==4):Bool)=decide (n=4):=beqN (k:=4)
theorem beqN5{n:Nat}:(((n:Int)==5):Bool)=decide (n=5):=beqN (k:=5)
theorem beqN6{n:Nat}:(((n:Int)==6):Bool)=decide (n=6):=beqN (k:=6)
theorem len_nilB{l:List Bx}:decide (l.length=0)=decide (l=[]):=decide_eq_decide.2 List.length_eq_zero_iff
theorem smay{R:Res}{d:Dc}{A:Option Addr}{m:Nat}(h:BxR R A d.boxes)(hl:d.boxes.length≤1000000):CP [] 310 [.agg (dA d (.slice A d.boxes.length m))] [.res R] (fun v H'=>v=bA (mayD d)∧∃G,H'=.res R::G):=by
 obtain ⟨b1,hb1⟩:∃b,b=nameB d.name:=⟨_,rfl⟩
 obtain ⟨b2,hb2⟩:∃b,b=whoZ d.role:=⟨_,rfl⟩
 obtain ⟨b3,hb3⟩:∃b,b=noRule d:=⟨_,rfl⟩
 obtain ⟨b4,hb4⟩:∃b,b=boxesR d.boxes:=⟨_,rfl⟩
 obtain ⟨b5,hb5⟩:∃b,b=noName d:=⟨_,rfl⟩
 obtain ⟨b6,hb6⟩:∃b,b=ruleR d:=⟨_,rfl⟩
 obtain ⟨b7,hb7⟩:∃b,b=whoR d.role:=⟨_,rfl⟩
 have k1:∀{S:List Nat} {H:List AObj} {K:AV→List AObj→Prop},K (bA b1) H→CP S 408 [.lit (stK d.name)] H K:=fun k=>slexname (hb1 ▸ k)
 have k2:∀{S:List Nat} {H:List AObj} {K:AV→List AObj→Prop},K (bA b2) H→CP S 410 [.agg (wA d.role)] H K:=fun k=>szero (hb2 ▸ k)
 have k3:∀{S:List Nat} {H:List AObj} {K:AV→List AObj→Prop} {v:Value},K (bA b3) H→CP S 411 [.agg (dA d v)] H K:=fun k=>snorule (hb3 ▸ k)
 have k4:=sboxes (m:=m) h hl
 rw[←hb4] at k4
 have k5:∀{S:List Nat} {H:List AObj} {K:AV→List AObj→Prop},K (bA b5) H→CP S 413 [.agg (dA d (.slice A d.boxes.length m))] H K:=fun k=>snoname (hb5 ▸ k)
 have k6:∀{S:List Nat} {H:List AObj} {K:AV→List AObj→Prop} {v:Value},K (bA b6) H→CP S 414 [.agg (dA d v)] H K:=fun k=>srule (hb6 ▸ k)
 have k7:∀{S:List Nat} {H:List AObj} {K:AV→List AObj→Prop},K (bA b7) H→CP S 415 [.agg (wA d.role)] H K:=fun k=>swho (hb7 ▸ k)
 have k8:=snumbers (l:=[(d.n:Int)]) (T:=3) (by simp)
 rw[List.all_cons,List.all_nil,Bool.and_true,inB_nat] at k8
 refine fn_ok ev_ok rfl ?_
 refine FnW.of rfl rfl ?_
 refine WpC.seqG fun F hF=>?_
 repeat' ((conv=>whnf);first|with_reducible apply brP_of<;>intro _|refine k1 ?_|refine k2 ?_|refine k3 ?_|refine k5 ?_|refine k6 ?_|refine k7 ?_|(refine k4.use [0] rfl rfl ⟨⟨_,rfl,kp⟩,tU⟩ ?_;rintro _ _ ⟨rfl,G,rfl⟩;refine ⟨[],?_⟩)|(refine k8.use [2] rfl rfl ⟨⟨_,rfl,rfl⟩,tU⟩ ?_;rintro _ _ ⟨rfl,G,rfl⟩;refine ⟨[],?_⟩)|(show F _ _ _;subst hF;refine WpC.seqG fun F hF=>?_)|(show F _ _ _;subst hF))
 all_goals (try conv=>whnf)
 all_goals refine ⟨bA_of ?_,_,rfl⟩
 all_goals clear k1 k2 k3 k4 k5 k6 k7 k8
 all_goals unfold mayD
 all_goals rw[←hb1,←hb2,←hb3,←hb4,←hb5,←hb6,←hb7]
 all_goals clear hb1 hb2 hb3 hb4 hb5 hb6 hb7 hl h
 all_goals (try clear hF F)
 all_goals simp only[beqN1,beqN2,beqN3,beqN4,beqN5,beqN6,beqN0,len_nilB] at *
 all_goals simp_all
 all_goals (intro hh;omega)
structure DsR(R:Res)(A:Option Addr)(m:Nat)(ds:List Dv):Prop where
 rd:RdV Tryz.prog R 175 24 A (fun y=>.agg (dcC y.x y.v)) ds
 bx:∀y∈ds,BxR R y.A y.x.boxes
 len:ds.length≤1000000∧∀y∈ds,y.x.boxes.length≤1000000
theorem spright{R:Res}{A:Option Addr}{m:Nat}{ds:List Dv}(h:DsR R A m ds):CP [] 220 [.lit (.slice A ds.length m)] [.res R] (fun v H'=>v=bA (ds.all fun y=>mayD y.x)∧∃G,H'=.res R::G):=by
 obtain ⟨p,hp⟩:∃p:Dv→Bool,p=fun y=>mayD y.x:=⟨_,rfl⟩
 have hpe:∀y:Dv,mayD y.x=p y:=fun y=>by rw[hp]
 rw[←hp]
 clear hp
 have hn:=h.len.1
 refine fn_ok ev_ok rfl ?_
 conv=>whnf
 refine loopP ev_ok rfl (fun k:Nat=>[(5,.lit (.slice A ds.length m)),(6,iA ds.length),(7,iA (k:Nat))]) (fun _=>[.res R]) (fun k=>k≤ds.length∧ds.all p=(ds.drop k).all p) (fun k=>ds.length - k) 0 ⟨Nat.zero_le _,rfl⟩ [0] ?_ ?_
 ·exact ⟨rfl,⟨⟨rfl,rfl⟩,⟨rfl,rfl⟩,⟨rfl,rfl⟩,tU⟩,⟨⟨_,rfl,kp⟩,tU⟩⟩
 ·rintro k ⟨hk0,hr⟩
  by_cases hk:k<ds.length
  ·obtain ⟨a,rfl,hrd⟩:=h.rd.at hk
   have hmem:ds[k]∈ds:=List.getElem_mem hk
   rw[List.drop_eq_getElem_cons hk,List.all_cons] at hr
   have hm:=smay (m:=ds[k].cap) (h.bx _ hmem) (h.len.2 _ hmem)
   rw[hpe] at hm
   conv=>whnf
   refine brP_of (fun _=>?_) (noF hk)
   repeat' ((conv=>whnf);first|with_reducible apply brP_of<;>intro _|refine OpP.idxL ev_ok rfl rfl rfl rfl rfl hk ?_|refine OpP.loadR (i:=0) (v:=.agg (dA ds[k].x ds[k].v)) rfl (fun w S hR=>hrd w S hR k hk) rfl rfl ?_|(refine hm.use [0] rfl rfl ⟨⟨_,rfl,kp⟩,tU⟩ ?_;rintro _ _ ⟨rfl,G,rfl⟩;refine ⟨[],?_⟩))
   all_goals (try conv=>whnf)
   all_goals rename_i hx
   ·exact ⟨k+1,[0],⟨⟨hk,by rw[hr,hx,Bool.true_and]⟩,by omega⟩,rfl,⟨⟨rfl,rfl⟩,⟨rfl,rfl⟩,⟨rfl,subInt rfl (wrap_in (by omega) (by omega))⟩,tU⟩,⟨⟨_,rfl,kp⟩,tU⟩⟩
   ·exact ⟨bA_eq (by rw[hr,hx];rfl),_,rfl⟩
  ·obtain rfl:k=ds.length:=by omega
   rw[List.drop_length] at hr
   conv=>whnf
   refine brP_of (noT hk) (fun _=>?_)
   repeat' ((conv=>whnf);with_reducible apply brP_of<;>intro _)
   all_goals (try conv=>whnf)
   exact ⟨bA_eq (by rw[hr];rfl),_,rfl⟩
def fltA(f:Flt):List AV:=[iA f.err,iA f.line,iA f.col]
theorem ckAll_cons{d:Dc}{r:List Dc}{c:Ck}:ckAll (d::r) c=if (ckDecl d c).fault.err=0 then ckAll r (ckDecl d c) else ckDecl d c:=rfl
structure CkS where
 k:Nat
 c:Ck
 gs:List Rgn
 pl:List (Value×List Bx)
 rv:Value
 rs:List Rue
def chkH(R:Res)(s:CkS):List AObj:=[.res R,.cells [iA 0,iA 0,iA 0] 86,.map [(iA 1,.map 3,0),(iA 2,.map 4,1)] 2,.mrow (mE stK naK s.c.roles),.mrow (mE stK naK s.c.labels),.mrow (mE stK id (s.gs.map fun g=>(g.n,g.v))),.cells [.map 2,.map 5,.lit s.rv,iA s.c.boxes,iA s.c.fault.err,iA s.c.fault.line,iA s.c.fault.col] tCk,.res (boxPool s.pl),.res (OwnR ruC 7 tRu s.rv s.rs)]
def ChkPost(R:Res)(q:List Rl×Flt)(v:AV)(H':List AObj):Prop:=
 (∃rv rs pl G1 G2 G3 G4 G5 G6 G,q=(rs.map Rue.x,Flt.ok)∧(∀y∈rs,RuB pl y)∧((rv=nilV∧rs=[])∨∃A m,rv=.slice (some A) rs.length m)∧v=.tuple [.lit rv,.agg [iA 0,iA 0,iA 0]]∧rs.length≤32∧H'=[.res R,G1,G2,G3,G4,G5,G6,.res (boxPool pl),.res (OwnR ruC 7 tRu rv rs)]++G) ∨
 (∃f G,q=([],f)∧f.err≠0∧v=.tuple [.lit nilV,.agg (fltA f)]∧H'=.res R::G)
theorem pool_zero(w:World):(boxPool []).at_ w fun _=>False:=fun _ h=>h
theorem own_ru(w:World):(OwnR ruC 7 tRu nilV []).at_ w fun _=>False:=⟨Own.nil,fun b=>by simp[nilV,Value.ownBlock]⟩
theorem rcheck{R:Res}{A:Option Addr}{m:Nat}{ds:List Dv}(h:DsR R A m ds):CP [] 127 [.lit (.slice A ds.length m)] [.res R] (ChkPost R (check (ds.map Dv.x))):=by
 refine fn_ok ev_ok rfl ?_
 repeat' ((conv=>whnf);first|with_reducible apply brP_of<;>intro _|refine WpS.drawn ev_ok rfl rfl ?_|with_reducible refine And.intro (AgP.mk ⟨_,rfl,rfl⟩) ?_|(refine (spright h).use [0] rfl rfl ⟨⟨_,rfl,kp⟩,tU⟩ ?_;rintro _ _ ⟨rfl,G0,rfl⟩;refine ⟨[],?_⟩)|refine OpP.madd (.inr rfl) rfl rfl rfl rfl rfl rfl rfl rfl rfl ?_)
 all_goals (try conv=>whnf)
 ·rename_i hr
  have hmay:∀y∈ds,mayD y.x=true:=List.all_eq_true.1 hr
  have hch:check (ds.map Dv.x)=if (ckAll (ds.map Dv.x) Ck.zero).fault.err=0 then ((ckAll (ds.map Dv.x) Ck.zero).rules,Flt.ok) else ([],(ckAll (ds.map Dv.x) Ck.zero).fault):=by
   unfold check
   rw[if_neg]
   simp only[List.all_map,Function.comp_def,hr,Bool.not_true,Bool.false_eq_true,not_false_eq_true]
  refine WpS.wk (.same (.same (.same (.map (fs:=[]) rfl rfl (by simp) (.map (fs:=[]) rfl rfl (by simp) (.map (fs:=[]) rfl rfl (by simp) (.same .nil))))))) ?_
  refine WpS.pre (Pre.more (R:=boxPool []) rfl (Ent.snocE pool_zero _)) ?_
  refine WpS.pre (Pre.more (R:=OwnR ruC 7 tRu nilV []) rfl (Ent.snocE own_ru _)) ?_
  refine loopP ev_ok rfl (fun s:CkS=>[(3,.ptr 1 0),(4,.ptr 6 0),(18,.lit (.slice A ds.length m)),(19,iA ds.length),(20,iA (s.k:Nat))]) (chkH R)
   (fun s=>s.k≤ds.length∧CkI s.c s.gs s.pl s.rv s.rs∧s.c.rules.length≤32∧s.c.boxes≤32∧s.c.fault.err=0∧ckAll (ds.map Dv.x) Ck.zero=ckAll ((ds.drop s.k).map Dv.x) s.c) (fun s=>ds.length - s.k) ⟨0,Ck.zero,[],[],nilV,[]⟩ ⟨Nat.zero_le _,⟨⟨rfl,fun g hg=>by simp at hg⟩,rfl,fun y hy=>by simp at hy,.inl ⟨rfl,rfl⟩⟩,by decide,by decide,rfl,rfl⟩ [0,1,2,3,4,5,6,7,8] ?_ ?_
  ·exact ⟨rfl,⟨⟨rfl,rfl⟩,⟨rfl,rfl⟩,⟨rfl,rfl⟩,⟨rfl,rfl⟩,⟨rfl,rfl⟩,tU⟩,⟨⟨_,rfl,kp⟩,⟨_,rfl,rfl⟩,⟨_,rfl,rfl⟩,⟨_,rfl,rfl⟩,⟨_,rfl,rfl⟩,⟨_,rfl,rfl⟩,⟨_,rfl,rfl⟩,⟨_,rfl,kp⟩,⟨_,rfl,kp⟩,tU⟩⟩
  ·rintro ⟨k,c,gs,pl,rv,rs⟩ ⟨hk0,hi,h32,hb,hf,hall⟩
   simp only[] at hk0 hi h32 hb hf hall
   by_cases hk:k<ds.length
   ·obtain ⟨a,rfl,hrd⟩:=h.rd.at hk
    have hmem:ds[k]∈ds:=List.getElem_mem hk
    rw[List.drop_eq_getElem_cons hk,List.map_cons,ckAll_cons] at hall
    conv=>whnf
    refine brP_of (fun _=>?_) (noF hk)
    repeat' ((conv=>whnf);first|with_reducible apply brP_of<;>intro _|refine WpS.drawn ev_ok rfl rfl ?_|with_reducible refine And.intro (AgP.mk ⟨_,rfl,rfl⟩) ?_|refine OpP.idxL ev_ok rfl rfl rfl rfl rfl hk ?_|refine OpP.loadR (i:=0) (v:=.agg (dA ds[k].x ds[k].v)) rfl (fun w S hR=>hrd w S hR k hk) rfl rfl ?_|(refine (ckdecl (m:=ds[k].cap) hi h32 hb (hmay _ hmem) (h.bx _ hmem) (h.len.2 _ hmem)).use [6,2,3,4,5,7,8,0] rfl rfl ⟨⟨_,rfl,rfl⟩,⟨_,rfl,rfl⟩,⟨_,rfl,rfl⟩,⟨_,rfl,rfl⟩,⟨_,rfl,rfl⟩,⟨_,rfl,kp⟩,⟨_,rfl,kp⟩,⟨_,rfl,kp⟩,tU⟩ ?_;rintro _ _ ⟨rfl,gs',pl',rv',rs',hi',G,rfl⟩;refine ⟨[],?_⟩))
    all_goals (try conv=>whnf)
    all_goals
     rename_i hx
     simp only[bne_iff_ne,ne_eq,bne_eq_false_iff_eq,Int.natCast_eq_zero] at hx
    ·have e:check (ds.map Dv.x)=([],(ckDecl ds[k].x c).fault):=by
      rw[hch,hall,if_neg hx,if_neg hx]
     rw[e]
     exact .inr ⟨_,_,rfl,hx,rfl,rfl⟩
    ·rw[if_pos hx] at hall
     obtain ⟨h1,h2⟩:=ckDecl_le h32 hb hx
     exact ⟨⟨k+1,ckDecl ds[k].x c,gs',pl',rv',rs'⟩,[0,1,2,3,4,5,6,7,8],⟨⟨hk,hi',h1,h2,hx,hall⟩,by show ds.length - (k+1)<ds.length - k;omega⟩,rfl,⟨⟨rfl,rfl⟩,⟨rfl,rfl⟩,⟨rfl,rfl⟩,⟨rfl,rfl⟩,⟨rfl,subInt rfl (wrap_in (by have:=h.len.1;dsimp only;omega) (by have:=h.len.1;dsimp only;omega))⟩,tU⟩,⟨⟨_,rfl,kp⟩,⟨_,rfl,rfl⟩,⟨_,rfl,rfl⟩,⟨_,rfl,rfl⟩,⟨_,rfl,rfl⟩,⟨_,rfl,rfl⟩,⟨_,rfl,rfl⟩,⟨_,rfl,kp⟩,⟨_,rfl,kp⟩,tU⟩⟩
   ·obtain rfl:k=ds.length:=by omega
    rw[List.drop_length] at hall
    have e:check (ds.map Dv.x)=(rs.map Rue.x,Flt.ok):=by
     rw[hch,hall]
     show (if c.fault.err=0 then (c.rules,Flt.ok) else _)=_
     rw[if_pos hf,hi.r]
    have hrs:rs.length≤32:=by rw[hi.r,List.length_map] at h32;exact h32
    have hib:=hi.b
    rw[e]
    rcases hi.v with ⟨rfl,rfl⟩|⟨A3,m3,rfl⟩
    ·conv=>whnf
     refine brP_of (noT hk) (fun _=>?_)
     repeat' ((conv=>whnf);first|with_reducible apply brP_of<;>intro _|refine WpS.drawn ev_ok rfl rfl ?_|with_reducible refine And.intro (AgP.mk ⟨_,rfl,rfl⟩) ?_ )
     all_goals (try conv=>whnf)
     exact .inl ⟨nilV,[],pl,_,_,_,_,_,_,_,rfl,hib,.inl ⟨rfl,rfl⟩,rfl,hrs,rfl⟩
    ·conv=>whnf
     refine brP_of (noT hk) (fun _=>?_)
     repeat' ((conv=>whnf);first|with_reducible apply brP_of<;>intro _|refine WpS.drawn ev_ok rfl rfl ?_|with_reducible refine And.intro (AgP.mk ⟨_,rfl,rfl⟩) ?_ )
     all_goals (try conv=>whnf)
     exact .inl ⟨_,rs,pl,_,_,_,_,_,_,_,rfl,hib,.inr ⟨A3,m3,rfl⟩,rfl,hrs,rfl⟩
 ·rename_i hr
  have hch:check (ds.map Dv.x)=([],⟨1,0,0⟩):=by
   unfold check
   rw[if_pos]
   simp only[List.all_map,Function.comp_def,hr,Bool.not_false]
  rw[hch]
  exact .inr ⟨⟨1,0,0⟩,_,rfl,by decide,rfl,rfl⟩
end Go.Proofs.YtmbdghclhpboaaaGreat
namespace Go.Proofs.YtmbdghclhpboaaaGreat
theorem pz_toksF:∀(k:Nat) (l:List UInt8) (p:Pt) (out:List Tk),(toksF k l p out).1.length≤out.length+k
 | 0,_,_,out=>Nat.le_refl _
 | k+1,l,p,out=>by
   unfold toksF
   simp only
   split
   ·exact Nat.le_add_right _ _
   ·split
    ·refine Nat.le_trans (pz_toksF k _ _ _) ?_
     rw[List.length_append]
     simp only[List.length_cons,List.length_nil]
     omega
    ·exact Nat.zero_le _
theorem pz_toks(s:List UInt8):(toks s).1.length≤513:=by
 unfold toks
 split
 ·exact Nat.zero_le _
 ·have:=pz_toksF (s.length+1) s Pt.zero []
  simp only[List.length_nil] at this
  omega
theorem pz_more(e:Nat×Nat):∀(k:Nat) (p:Pr) (out:List Bx),(pMore e k p out).1.length≤out.length+k
 | 0,_,out=>Nat.le_refl _
 | k+1,p,out=>by
   unfold pMore
   split
   ·refine Nat.le_trans (pz_more e k _ _) ?_
    rw[List.length_append]
    simp only[List.length_cons,List.length_nil]
    omega
   ·exact Nat.le_add_right _ _
theorem pz_boxes(e:Nat×Nat)(p:Pr):(pBoxes e p).1.length≤p.l.length+1:=by
 have:=pz_more e p.l.length (pBox e p).2 [(pBox e p).1]
 simp only[List.length_cons,List.length_nil] at this
 unfold pBoxes
 omega
theorem region_len(e:Nat×Nat)(d:Dc)(p:Pr):(pRegion e d p).1.boxes.length≤p.l.length+1:=by
 unfold pRegion
 exact Nat.le_trans (pz_boxes e _) (Nat.add_le_add_right (Nat.le_trans (want_le e _ _) (name_le e p)) 1)
theorem decl_boxes(e:Nat×Nat)(p:Pr):(pDecl e p).1.boxes.length≤p.l.length+1:=by
 have ho:=on_le p
 unfold pDecl
 simp only
 repeat' split
 all_goals first
  | exact Nat.zero_le _
  | (refine Nat.le_trans (region_len e _ _) ?_;omega)
theorem all_len(e:Nat×Nat):∀(k:Nat) (p:Pr) (out:List Dc),(pAllF e k p out).1.length≤out.length+k
 | 0,_,out=>Nat.le_refl _
 | k+1,p,out=>by
   unfold pAllF
   split
   ·exact Nat.le_add_right _ _
   ·refine Nat.le_trans (all_len e k _ _) ?_
    rw[List.length_append]
    simp only[List.length_cons,List.length_nil]
    omega
theorem decl_le(e:Nat×Nat)(p:Pr):(pDecl e p).2.l.length≤p.l.length:=by
 rcases decl_on e p with h|h
 ·omega
 ·exact h.2
theorem all_boxes(e:Nat×Nat)(n:Nat):∀(k:Nat) (p:Pr) (out:List Dc),p.l.length≤n→(∀d∈out,d.boxes.length≤n+1)→∀d∈(pAllF e k p out).1,d.boxes.length≤n+1
 | 0,_,out,_,h=>h
 | k+1,p,out,hp,h=>by
   unfold pAllF
   split
   ·exact h
   ·refine all_boxes e n k _ _ (Nat.le_trans (decl_le e p) hp) fun d hd=>?_
    rcases List.mem_append.1 hd with h1|h1
    ·exact h d h1
    ·rw[List.mem_singleton.1 h1]
     have:=decl_boxes e p
     omega
theorem parse_len(s:List UInt8):(parse s).1.length≤514:=by
 unfold parse
 split
 ·exact Nat.zero_le _
 ·simp only
  split
  ·refine Nat.le_trans (all_len _ _ _ _) ?_
   have:=pz_toks s
   simp only[List.length_nil]
   omega
  ·exact Nat.zero_le _
theorem parse_boxes(s:List UInt8):∀d∈(parse s).1,d.boxes.length≤514:=by
 unfold parse
 split
 ·intro d hd;simp at hd
 ·simp only
  split
  ·exact all_boxes _ 513 _ _ _ (pz_toks s) (fun d hd=>by simp at hd)
  ·intro d hd;simp at hd
end Go.Proofs.YtmbdghclhpboaaaGreat
namespace Go.Proofs.YtmbdghclhpboaaaGreat
open Ev
theorem snap_own{α:Type}{enc:α→List Value}{k:Nat}{e:TypeId}{base:Nat}{w0 w:World}{S:Nat→Prop}{v:Value}{l:List α}(h:Own enc k e w0 base v l)(hw:(SnapR base w0).at_ w S):Own enc k e w base v l:=
 h.keep fun b hb=>hw.2 b (h.lt b hb).1 (h.lt b hb).2
theorem own_lay{α:Type}{enc:α→List Value}{k:Nat}{e:TypeId}{base:Nat}{w0:World}{A:Option Addr}{m:Nat}{l:List α}(h:Own enc k e w0 base (.slice A l.length m) l)(hne:l≠[]):∃b off,A=some ⟨b,off,none⟩∧base≤b∧Lay w0 b off (l.flatMap enc):=by
 have hpos:0<l.length:=List.length_pos_iff.2 hne
 obtain ⟨A',m',e,_,h2,h3⟩:=h.sl
 injection e with e1 e2 e3
 subst e1;subst e3
 obtain ⟨b,off,rfl,hb,hl⟩:=h3 hpos
 refine ⟨b,off,rfl,?_,hl⟩
 rcases h.2 with ⟨h1,h0⟩|⟨g,cap,cur,h1,hg,_⟩
 ·omega
 ·injection h1 with e1 e2 e3
  injection e1 with e1
  injection e1 with e1 e2 e3
  omega
theorem dty_ok:∃r,ev.ty 175=some r∧r.info.size=24∧isAggD r.und=true:=⟨_,rfl,rfl,rfl⟩
theorem bty_ok:∃r,ev.ty tBx=some r∧r.info.size=4∧isAggD r.und=true:=⟨_,rfl,rfl,rfl⟩
theorem ds_of{base:Nat}{w0:World}{A:Option Addr}{m:Nat}{ds:List Dv}(h:Own dvC 24 175 w0 base (.slice A ds.length m) ds)(hb:Bxs w0 base ds)(hl:ds.length≤1000000∧∀y∈ds,y.x.boxes.length≤1000000):DsR (SnapR base w0) A m ds where
 rd:=RdV.snap ev_ok (enc:=dvC) (fun _=>rfl) dty_ok fun hne=>own_lay h hne
 bx:=fun y hy=>⟨RdV.snap ev_ok (fun _=>rfl) bty_ok fun hne=>own_lay (hb y hy) hne,fun hne w S hw=>by
  obtain ⟨b,off,h1,_,h3⟩:=own_lay (snap_own (hb y hy) hw) hne
  exact ⟨b,off,h1,h3⟩⟩
 len:=hl
theorem rparse{s:List UInt8}{H:List AObj}{K:AV→List AObj→Prop}(hlim:Nat.blt H.length lim=true)
  (k:∀A m ds R,ds.map Dv.x=(parse s).1→DsR R A m ds→K (.tuple [.lit (.slice A ds.length m),.agg (fltA (parse s).2)]) (H++[.res R])):CP [] 126 [.lit (stK s)] H K:=by
 refine CallS.of_snap ev_ok rfl (ι:=Option Addr×Nat×List Dv) (fun i=>.tuple [.lit (.slice i.1 i.2.2.length i.2.1),.agg (fltA (parse s).2)]) (fun i base w'=>i.2.2.map Dv.x=(parse s).1∧Own dvC 24 175 w' base (.slice i.1 i.2.2.length i.2.1) i.2.2∧Bxs w' base i.2.2) rfl hlim ?_ ?_
 ·intro w
  refine (parse_ok s w).mono ?_
  rintro e w' ⟨v,ds,rfl,h1,h2,h3,h4⟩
  obtain ⟨A,cap,rfl⟩:=h2.form
  exact ⟨(A,cap,ds),_,rfl,rfl,⟨h1,h2,h3⟩,h4⟩
 ·rintro ⟨A,m,ds⟩ base w' _ ⟨h1,h2,h3⟩
  refine k A m ds _ h1 (ds_of h2 h3 ⟨?_,fun y hy=>?_⟩)
  ·have h:=parse_len s
   rw[←h1,List.length_map] at h
   show ds.length≤1000000
   have h:ds.length≤514:=h
   omega
  ·have h:=parse_boxes s y.x (by rw[←h1];exact List.mem_map_of_mem hy)
   omega
def ReadPost(q:List Rl×Flt)(v:AV)(H':List AObj):Prop:=
 (∃rv rs pl,q=(rs.map Rue.x,Flt.ok)∧(∀y∈rs,RuB pl y)∧((rv=nilV∧rs=[])∨∃A m,rv=.slice (some A) rs.length m)∧v=.tuple [.lit rv,.agg [iA 0,iA 0,iA 0]]∧rs.length≤32∧∃G1 G2 G3 G,H'=[G1,G2,G3,.res (boxPool pl),.res (OwnR ruC 7 tRu rv rs)]++G) ∨
 (∃f,q=([],f)∧f.err≠0∧v=.tuple [.lit nilV,.agg (fltA f)])
theorem rread{s:List UInt8}:CP [] 49 [.lit (stK s)] [] (ReadPost (readR s)):=by
 refine fn_ok ev_ok rfl ?_
 repeat' ((conv=>whnf);first|with_reducible apply brP_of<;>intro _|refine WpS.drawn ev_ok rfl rfl ?_|with_reducible refine And.intro (AgP.mk ⟨_,rfl,rfl⟩) ?_|(refine rparse rfl fun A m ds R h1 h2=>?_)|(refine (rcheck h2).use [1] rfl rfl ⟨⟨_,rfl,kp⟩,tU⟩ ?_;rintro _ _ (⟨_,rs,pl,G1,G2,G3,G4,G5,G6,G,hq,hb,(⟨rfl,rfl⟩|⟨A3,m3,rfl⟩),rfl,hl,rfl⟩|⟨f,G,hq,hf,rfl,rfl⟩);refine ⟨[7,8],?_⟩;rotate_left;refine ⟨[7,8],?_⟩;rotate_left;refine ⟨[],?_⟩;rotate_left))
 all_goals (try conv=>whnf)
 ·rename_i hx
  simp only[bne_iff_ne,ne_eq,Int.natCast_eq_zero] at hx
  have e:readR s=([],(parse s).2):=by unfold readR;rw[if_neg hx]
  exact .inr ⟨_,e,hx,rfl⟩
 all_goals
  have e:readR s=check (ds.map Dv.x):=by
   have hx:(((parse s).2.err:Int) != 0)=false:=by assumption
   simp only[bne_eq_false_iff_eq,Int.natCast_eq_zero] at hx
   unfold readR
   rw[if_pos hx,h1]
  rw[hq] at e
 ·exact .inl ⟨_,_,pl,e,hb,.inl ⟨rfl,rfl⟩,rfl,hl,_,_,_,_,rfl⟩
 ·exact .inl ⟨_,rs,pl,e,hb,.inr ⟨A3,m3,rfl⟩,rfl,hl,_,_,_,_,rfl⟩
 ·exact .inr ⟨f,e,hf,rfl⟩
theorem pool_bx{pl:List (Value×List Bx)}{A:Option Addr}{l:List Bx}{m:Nat}(hh:∃w S,(boxPool pl).at_ w S)(hin:l≠[]→(.slice A l.length m,l)∈pl):BxR (boxPool pl) A l where
 rd:=RdV.lay ev_ok (fun _=>rfl) bty_ok fun hne=>by
  obtain ⟨w0,S0,h0⟩:=hh
  obtain ⟨b,off,rfl,_⟩:=pool_rd (hin hne) hne w0 S0 h0
  refine ⟨b,off,rfl,fun w S h=>?_⟩
  obtain ⟨b',off',e,hl⟩:=pool_rd (hin hne) hne w S h
  simp only[Option.some.injEq,Addr.mk.injEq] at e
  obtain ⟨rfl,rfl,_⟩:=e
  exact hl
 lay:=fun hne w S h=>pool_rd (hin hne) hne w S h
def Rl.ok(x:Rl):Bool:=
 if x.kind=6 then decide (x.roles≤255)&&(decide (x.lo=0)&&(decide (x.hi=0)&&(decide (x.labels=0)&&(decide (x.boxes.length=0)&&decide (x.zoom=0)))))
 else if x.kind=4∨x.kind=5 then decide (x.roles≤255)&&(decide (x.lo≤x.hi)&&(decide (x.hi≤7)&&(decide (x.labels≤255)&&(x.boxes.all bxOk&&decide (x.zoom≤16)))))
 else false
def ruA(y:Rue):List AV:=[iA y.x.kind,iA y.x.roles,iA y.x.lo,iA y.x.hi,iA y.x.labels,.lit y.v,iA y.x.zoom]
theorem ruright{R:Res}{y:Rue}(h:BxR R y.A y.x.boxes)(hl:y.x.boxes.length≤1000000):CP [] 222 [.agg (ruA y)] [.res R] (fun v H'=>v=bA y.x.ok∧∃G,H'=.res R::G):=by
 refine fn_ok ev_ok rfl ?_
 repeat' ((conv=>whnf);first|with_reducible apply brP_of<;>intro _|(refine (ckboxes (m:=y.m) h.rd hl).use [0] rfl rfl ⟨⟨_,rfl,kp⟩,tU⟩ ?_;rintro _ _ ⟨rfl,G,rfl⟩;refine ⟨[],?_⟩)|refine fn_ok ev_ok rfl ?_)
 all_goals (try conv=>whnf)
 all_goals refine ⟨bA_eq ?_,_,rfl⟩
 all_goals simp only[decide_eq_true_eq,decide_eq_false_iff_not,beq_iff_eq,beq_eq_false_iff_ne] at *
 all_goals unfold Rl.ok
 all_goals first
  | rw[if_pos (by omega)]
  | rw[if_neg (by omega),if_pos (by omega)]
  | rw[if_neg (by omega),if_neg (by omega)]
 all_goals simp only[Bool.and_eq_true,Bool.and_eq_false_iff,eq_comm (a:=true),eq_comm (a:=false),decide_eq_true_eq,decide_eq_false_iff_not]
 all_goals first|omega|(simp only[*,true_and,Bool.true_eq_false,Bool.false_eq_true,false_and,or_true,true_or,and_false];omega)|simp_all
theorem RuB.bx{pl:List (Value×List Bx)}{y:Rue}(h:RuB pl y)(hh:∃w S,(boxPool pl).at_ w S):BxR (boxPool pl) y.A y.x.boxes:=pool_bx (m:=y.m) hh h.2.1
theorem uty_ok:∃r,ev.ty tRu=some r∧r.info.size=7∧isAggD r.und=true:=⟨_,rfl,rfl,rfl⟩
theorem own_rd{A:Option Addr}{m:Nat}{rs:List Rue}(hh:∃w S,(OwnR ruC 7 tRu (.slice A rs.length m) rs).at_ w S):RdV Tryz.prog (OwnR ruC 7 tRu (.slice A rs.length m) rs) tRu 7 A (fun y=>.agg (ruC y).toArray) rs:=
 RdV.sl ev_ok (c:=m) (fun _=>rfl) uty_ok (fun w S h=>⟨_,Own.sl h.1⟩) hh
theorem rulesRight{pl:List (Value×List Bx)}{A:Option Addr}{m:Nat}{rs:List Rue}(hb:∀y∈rs,RuB pl y)(hl:rs.length≤1000):CP [] 128 [.lit (.slice A rs.length m)] [.res (boxPool pl),.res (OwnR ruC 7 tRu (.slice A rs.length m) rs)] (fun v H'=>v=bA (rs.all fun y=>y.x.ok)∧∃G,H'=[.res (boxPool pl),.res (OwnR ruC 7 tRu (.slice A rs.length m) rs)]++G):=by
 refine CallS.know 0 rfl (fun w S h=>(⟨w,S,h⟩:∃w S,(boxPool pl).at_ w S)) fun hp=>?_
 refine CallS.know 1 rfl (fun w S h=>own_rd ⟨w,S,h⟩) fun hrd0=>?_
 refine fn_ok ev_ok rfl ?_
 conv=>whnf
 refine loopP ev_ok rfl (fun k:Nat=>[(5,.lit (.slice A rs.length m)),(6,iA rs.length),(7,iA (k:Nat))]) (fun _=>[.res (boxPool pl),.res (OwnR ruC 7 tRu (.slice A rs.length m) rs)]) (fun k=>k≤rs.length∧(rs.all fun y=>y.x.ok)=((rs.drop k).all fun y=>y.x.ok)) (fun k=>rs.length - k) 0 ⟨Nat.zero_le _,rfl⟩ [0,1] ?_ ?_
 ·exact ⟨rfl,⟨⟨rfl,rfl⟩,⟨rfl,rfl⟩,⟨rfl,rfl⟩,tU⟩,⟨⟨_,rfl,kp⟩,⟨_,rfl,kp⟩,tU⟩⟩
 ·rintro k ⟨hk0,hr⟩
  by_cases hk:k<rs.length
  ·obtain ⟨a,rfl,hrd⟩:=hrd0.at hk
   have hm:rs[k]∈rs:=List.getElem_mem hk
   rw[List.drop_eq_getElem_cons hk,List.all_cons] at hr
   conv=>whnf
   refine brP_of (fun _=>?_) (noF hk)
   repeat' ((conv=>whnf);first|with_reducible apply brP_of<;>intro _|refine OpP.idxL ev_ok rfl rfl rfl rfl rfl hk ?_|refine OpP.loadR (i:=1) (v:=.agg (ruA rs[k])) rfl (fun w S hR=>hrd w S hR k hk) rfl rfl ?_|(refine (ruright ((hb _ hm).bx hp) (hb _ hm).2.2).use [0] rfl rfl ⟨⟨_,rfl,kp⟩,tU⟩ ?_;rintro _ _ ⟨rfl,G,rfl⟩;refine ⟨[],?_⟩))
   all_goals (try conv=>whnf)
   all_goals
    rename_i hx
    rw[hx] at hr
   ·exact ⟨k+1,[0,1],⟨⟨hk,by rw[hr,Bool.true_and]⟩,by omega⟩,rfl,⟨⟨rfl,rfl⟩,⟨rfl,rfl⟩,⟨rfl,subInt rfl (wrap_in (by omega) (by omega))⟩,tU⟩,⟨⟨_,rfl,kp⟩,⟨_,rfl,kp⟩,tU⟩⟩
   ·exact ⟨bA_eq (by rw[hr];rfl),_,rfl⟩
  ·obtain rfl:k=rs.length:=by omega
   rw[List.drop_length] at hr
   conv=>whnf
   refine brP_of (noT hk) (fun _=>?_)
   conv=>whnf
   exact ⟨bA_eq (by rw[hr];rfl),_,rfl⟩
theorem rclone{R:Res}{pl:List (Value×List Bx)}{A:Option Addr}{l:List Bx}{m:Nat}(h:BxR R A l)(hn:l=[]→(.slice A l.length m:Value)=nilV)(hl:l.length≤1000000) :
  CP [] 129 [.lit (.slice A l.length m)] [.res R,.res (boxPool pl)] (fun v H'=>∃A' m' pl',v=.lit (.slice A' l.length m')∧(l=[]→(.slice A' l.length m':Value)=nilV)∧(∀p∈pl,p∈pl')∧(l≠[]→(.slice A' l.length m',l)∈pl')∧∃G,H'=.res R::.res (boxPool pl')::G):=by
 cases l with
 | nil=>
   have e:=hn rfl
   rw[e]
   refine fn_ok ev_ok rfl ?_
   repeat' ((conv=>whnf);with_reducible apply brP_of<;>intro _)
   all_goals (try conv=>whnf)
   exact ⟨none,0,pl,rfl,fun _=>rfl,fun _ h=>h,fun h=>absurd rfl h,_,rfl⟩
 | cons b l=>
   obtain ⟨a0,rfl,_⟩:=h.rd.at (k:=0) (Nat.succ_pos _)
   refine fn_ok ev_ok rfl ?_
   repeat' ((conv=>whnf);first|with_reducible apply brP_of<;>intro _|(refine OpP.om (OpM.appE ev_ok app_bx bxC_len (by decide) bx_one (i:=1) (j:=0) (l:=b::l) (R':=fun v'=>boxPool (pl++[(v',b::l)])) rfl rfl rfl (by simp) rfl rfl (h.lay (by simp)) (fun v' w S1 S2 h1 h2 hd=>pool_snoc w S1 S2 h1 h2 hd) (by omega) ?_);intro A' m'))
   all_goals (try conv=>whnf)
   exact ⟨some A',m',_,rfl,fun h=>absurd h (by simp),fun p hp=>by simp[hp],fun _=>by simp,_,rfl⟩
abbrev tGT:TypeId:=217
def Rue.zero:Rue:=⟨⟨0,0,0,0,0,[],0⟩,none,0⟩
structure GnS where
 k:Nat
 ys:List Rue
 np:List (Value×List Bx)
theorem set_rep{α:Type}{ys:List α}{n k:Nat}{z y:α}(h:ys.length=k)(hk:k<n):(ys++List.replicate (n - k) z).set k y=ys++[y]++List.replicate (n - (k+1)) z:=by
 subst h
 rw[show n - ys.length=(n - (ys.length+1))+1 by omega,List.replicate_succ]
 simp
def grtH(ys:List Rue)(np:List (Value×List Bx)):List AObj:=[.cells [.slice 1 0 ys.length (.k ys.length),.map 3] tGT,.row (ys.flatMap ruC) tRu,.res (boxPool np),.map [] 0]
def grtR(a:Addr)(ys:List Rue)(np:List (Value×List Bx)):Res:=AtR a 0 (grtH ys np)
structure GrI(l:List Rl)(ys:List Rue)(np:List (Value×List Bx)):Prop where
 x:ys.map Rue.x=l
 b:∀y∈ys,RuB np y
theorem gnew1{pl:List (Value×List Bx)}{A:Option Addr}{m:Nat}{rs:List Rue}(hb:∀y∈rs,RuB pl y)(hl:rs.length≤32)(hok:(rs.all fun y=>y.x.ok)=true):CP [] 50 [.lit (.slice A rs.length m)] [.res (boxPool pl),.res (OwnR ruC 7 tRu (.slice A rs.length m) rs)] (fun v H'=>v=.tuple [.ptr 5 0,iA 0]∧∃ys np G,GrI (rs.map Rue.x) ys np∧H'=[.res (boxPool pl),.res (OwnR ruC 7 tRu (.slice A rs.length m) rs),.row (ys.flatMap ruC) tRu,.res (boxPool np),.map [] 0,.cells [.slice 2 0 ys.length (.k ys.length),.map 4] tGT]++G):=by
 refine CallS.know 0 rfl (fun w S h=>(⟨w,S,h⟩:∃w S,(boxPool pl).at_ w S)) fun hp=>?_
 refine CallS.know 1 rfl (fun w S h=>own_rd ⟨w,S,h⟩) fun hrd0=>?_
 refine fn_ok ev_ok rfl ?_
 repeat' ((conv=>whnf);first|with_reducible apply brP_of<;>intro _|(refine (rulesRight hb (by omega)).use [0,1] rfl rfl ⟨⟨_,rfl,kp⟩,⟨_,rfl,kp⟩,tU⟩ ?_;rintro _ _ ⟨rfl,G,rfl⟩;refine ⟨[],?_⟩;rw[hok])|refine OpP.make rfl rfl rfl rfl rfl rfl (by omega) rfl rfl rfl ?_)
 ·rename_i hx
  exact absurd (of_decide_eq_true hx) (by omega)
 ·refine WpS.pre (Pre.same (H2:=[.res (boxPool pl),.res (OwnR ruC 7 tRu (.slice A rs.length m) rs),.row ((List.replicate rs.length Rue.zero).flatMap ruC) tRu]) (congrArg (fun l=>List.map vw [.res (boxPool pl),.res (OwnR ruC 7 tRu (.slice A rs.length m) rs),.cells l tRu]) (rep_flat (enc:=ruC) (y:=Rue.zero) (cs:=(ofValue (Value.agg #[.int .i64 0,.int .i64 0,.int .i64 0,.int .i64 0,.int .i64 0,.slice none 0 0,.int .i64 0])).cells) rfl rs.length)) (.of_eq rfl)) ?_
  refine WpS.pre (Pre.more (R:=boxPool []) rfl (Ent.snocE pool_zero _)) ?_
  refine loopP ev_ok rfl (fun s:GnS=>[(4,.slice 2 0 rs.length (.k rs.length)),(18,.lit (.slice A rs.length m)),(19,iA rs.length),(20,iA (s.k:Nat))]) (fun s=>[.res (boxPool pl),.res (OwnR ruC 7 tRu (.slice A rs.length m) rs),.row ((s.ys++List.replicate (rs.length - s.k) Rue.zero).flatMap ruC) tRu,.res (boxPool s.np)])
   (fun s=>s.k≤rs.length∧s.ys.length=s.k∧s.ys.map Rue.x=(rs.take s.k).map Rue.x∧∀y∈s.ys,RuB s.np y) (fun s=>rs.length - s.k) ⟨0,[],[]⟩ ⟨Nat.zero_le _,rfl,rfl,fun y hy=>by simp at hy⟩ [0,1,2,3] ?_ ?_
  ·exact ⟨rfl,⟨⟨rfl,rfl⟩,⟨rfl,rfl⟩,⟨rfl,rfl⟩,⟨rfl,rfl⟩,tU⟩,⟨⟨_,rfl,kp⟩,⟨_,rfl,kp⟩,⟨_,rfl,rfl⟩,⟨_,rfl,kp⟩,tU⟩⟩
  ·rintro ⟨k,ys,np⟩ ⟨hk0,hyl,hyx,hyb⟩
   simp only[] at hk0 hyl hyx hyb
   by_cases hk:k<rs.length
   ·obtain ⟨a,rfl,hrd⟩:=hrd0.at hk
    have hm:rs[k]∈rs:=List.getElem_mem hk
    have hrb:=hb _ hm
    have hll:(ys++List.replicate (rs.length - k) Rue.zero).length=rs.length:=by rw[List.length_append,List.length_replicate];omega
    have hoff:0+k * 7+7≤((ys++List.replicate (rs.length - k) Rue.zero).flatMap ruC).length:=by rw[flat_len ruC_len,hll];omega
    have hrow:∀y,setFrom ((ys++List.replicate (rs.length - k) Rue.zero).flatMap ruC) (0+k * 7) (ruC y)=(ys++[y]++List.replicate (rs.length - (k+1)) Rue.zero).flatMap ruC:=fun y=>by
     rw[Nat.zero_add,row_put ruC_len _ _ _ (by omega),set_rep hyl hk]
    conv=>whnf
    refine brP_of (fun _=>?_) (noF hk)
    repeat' ((conv=>whnf);first|with_reducible apply brP_of<;>intro _|refine OpP.idxL ev_ok rfl rfl rfl rfl rfl hk ?_|refine OpP.loadR (i:=1) (v:=.agg (ruA rs[k])) rfl (fun w S hR=>hrd w S hR k hk) rfl rfl ?_|(refine (rclone (pl:=np) (m:=rs[k].m) (hrb.bx hp) hrb.1 hrb.2.2).use [0,3] rfl rfl ⟨⟨_,rfl,kp⟩,⟨_,rfl,kp⟩,tU⟩ ?_;rintro _ _ ⟨A',m',np',rfl,hn',hs',hin',G',rfl⟩;refine ⟨[],?_⟩)|refine IdxP.of (k:=k) rfl hk ?_|refine OpP.rowPut (off:=0+k * 7) (vs:=ruC ⟨rs[k].x,A',m'⟩) rfl rfl rfl rfl rfl rfl rfl rfl hoff rfl ?_)
    all_goals (try conv=>whnf)
    refine ⟨⟨k+1,ys++[⟨rs[k].x,A',m'⟩],np'⟩,[0,1,2,3],⟨⟨hk,by simp[hyl],by show _=(rs.take (k+1)).map Rue.x;rw[List.map_append,hyx,take_snoc hk,List.map_append];rfl,fun y hy=>?_⟩,by show rs.length - (k+1)<rs.length - k;omega⟩,rfl,⟨⟨rfl,rfl⟩,⟨rfl,rfl⟩,⟨rfl,rfl⟩,⟨rfl,subInt rfl (wrap_in (by dsimp only;omega) (by dsimp only;omega))⟩,tU⟩,⟨⟨_,rfl,kp⟩,⟨_,rfl,kp⟩,⟨_,rfl,?_⟩,⟨_,rfl,kp⟩,tU⟩⟩
    ·rcases List.mem_append.1 hy with h|h
     ·exact (hyb y h).more hs'
     ·rw[List.mem_singleton.1 h]
      exact ⟨hn',hin',hrb.2.2⟩
    ·show ObE (AObj.row (setFrom ((ys++List.replicate (rs.length - k) Rue.zero).flatMap ruC) (0+k * 7) (ruC ⟨rs[k].x,A',m'⟩)) tRu) (AObj.row ((ys++[(⟨rs[k].x,A',m'⟩:Rue)]++List.replicate (rs.length - (k+1)) Rue.zero).flatMap ruC) tRu)
     rw[hrow]
     exact rfl
   ·obtain rfl:k=rs.length:=by omega
    conv=>whnf
    refine brP_of (noT hk) (fun _=>?_)
    repeat' ((conv=>whnf);with_reducible apply brP_of<;>intro _)
    all_goals (try conv=>whnf)
    have e:ys++List.replicate (rs.length - rs.length) Rue.zero=ys:=by simp
    refine ⟨rfl,ys,np,[],⟨by rw[hyx,List.take_length],hyb⟩,?_⟩
    show [AObj.res (boxPool pl),AObj.res (OwnR ruC 7 tRu (Value.slice A rs.length m) rs),AObj.row ((ys++List.replicate (rs.length - rs.length) Rue.zero).flatMap ruC) tRu,AObj.res (boxPool np),AObj.map [] 0,AObj.cells [AV.slice 2 0 rs.length (Cap.k rs.length),AV.map 4] tGT]=_
    rw[e,hyl]
    rfl
theorem gnew{pl:List (Value×List Bx)}{A:Option Addr}{m:Nat}{rs:List Rue}(hb:∀y∈rs,RuB pl y)(hl:rs.length≤32):CP [] 50 [.lit (.slice A rs.length m)] [.res (boxPool pl),.res (OwnR ruC 7 tRu (.slice A rs.length m) rs)] (fun v H'=>((rs.all fun y=>y.x.ok)=true∧∃a ys np,v=.tuple [.lit (.pointer (some a)),iA 0]∧GrI (rs.map Rue.x) ys np∧H'=[.res (boxPool pl),.res (OwnR ruC 7 tRu (.slice A rs.length m) rs),.res (grtR a ys np)])∨((rs.all fun y=>y.x.ok)=false∧v=.tuple [.lit (.pointer none),iA 1]∧∃G,H'=[.res (boxPool pl),.res (OwnR ruC 7 tRu (.slice A rs.length m) rs)]++G)):=by
 cases hok:rs.all fun y=>y.x.ok with
 | false=>
   refine fn_ok ev_ok rfl ?_
   repeat' ((conv=>whnf);first|with_reducible apply brP_of<;>intro _|(refine (rulesRight hb (by omega)).use [0,1] rfl rfl ⟨⟨_,rfl,kp⟩,⟨_,rfl,kp⟩,tU⟩ ?_;rintro _ _ ⟨rfl,G,rfl⟩;refine ⟨[],?_⟩;rw[hok]))
   all_goals (try conv=>whnf)
   ·rename_i hx
    exact absurd (of_decide_eq_true hx) (by omega)
   ·exact .inr ⟨rfl,rfl,_,rfl⟩
 | true=>
   refine CallS.lower (gnew1 hb hl hok) ?_
   rintro _ _ ⟨rfl,ys,np,G,hi,rfl⟩
   exact ⟨[0,1],[5,2,3,4],5,0,grtH ys np,[iA 0],⟨rfl,rfl,⟨⟨_,rfl,rfl⟩,⟨_,rfl,rfl⟩,tU⟩,⟨⟨_,rfl,rfl⟩,⟨_,rfl,rfl⟩,⟨_,rfl,rfl⟩,⟨_,rfl,rfl⟩,tU⟩,Ent.cons _ (Ent.cons _ (Ent.picks _ [none,none,some 1,none] rfl)),fun _=>rfl⟩,rfl,fun a=>.inl ⟨rfl,a,ys,np,rfl,hi,rfl⟩⟩
end Go.Proofs.YtmbdghclhpboaaaGreat
