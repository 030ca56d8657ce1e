/- Part of the proof: SnE Stp Rdp Rdp2 Eql Dec Same Same2. Conditions: as each states. -/
import Derived.Test.YtmbdghclhpboaaaGreatPq37
set_option linter.all false
set_option maxRecDepth 100000
set_option maxHeartbeats 8000000
namespace Go.Proofs.YtmbdghclhpboaaaGreat
open Ev
theorem Yh{R:aC}{q:bG}{tk:List dW}(h:q.Rd R)(hk:q.Tk R tk)(h0:q.ms.length<=60000)(h1:q.rs.length<=60000)(h2:q.ss.length<=60000)(h3:q.es.length<=60000):CP [] 27 [.agg q.a] [.res R] (fun v H'=>v=bA (eK q tk)/\∃G,H'=.res R::G):=by
 refine ag aa rfl ?_;repeat' ((conv=>whnf);first|with_reducible apply af<;>intro _|(refine (OK h hk h0 h1 h2 h3).use [0] rfl rfl ⟨ko,tU⟩ ?_;rintro _ _ (⟨hi,rfl,t,G,_,rfl⟩|⟨hi,rfl,G,rfl⟩);refine ⟨[2,3,4,5,6,7,8,9,10],?_⟩;rotate_left;refine ⟨[],?_⟩;rotate_left))
 all_goals (try conv=>whnf)
 all_goals rw[hi]
 all_goals exact ⟨rfl,_,rfl⟩
def OS(R:aC)(q:bG)(tk:List dW)(v:AV)(H':List ai):Prop:=
 (eK q tk=false/\v=.tuple [.lit aD,iA 1]/\∃G,H'=.res R::G) \/
 (eK q tk=true/\65536<(lG q tk).length/\v=.tuple [.lit aD,iA 2]/\∃G,H'=.res R::G) \/
 (eK q tk=true/\(lG q tk).length<=65536/\∃A n,v=.tuple [.lit (.slice (some A) (lG q tk).length n),iA 0]/\∃G1 G2 G,H'=.res R::G1::G2::.res (aA cB 1 da (.slice (some A) (lG q tk).length n) (lG q tk))::G)
theorem UW{q:bG}{tk:List dW}:lG q tk≠[]:=fun e=>by
 have:=congrArg List.length e;unfold lG at this;rw[List.length_append,bR] at this;simp only[List.length_nil] at this;omega
theorem Jb(w:World):(aA cB 1 da aD ([]:List UInt8)).at_ w fun _=>False:=⟨Own.nil,fun b=>by simp[aD,Value.ownBlock]⟩
theorem Sd{R:aC}{q:bG}{tk:List dW}(h:q.Rd R)(hk:q.Tk R tk)(h0:q.ms.length<=60000)(h1:q.rs.length<=60000)(h2:q.ss.length<=60000)(h3:q.es.length<=60000)(ho:eK q tk=true->He q tk):CP [] 11 [.agg q.a] [.res R] (OS R q tk):=by
 refine ag aa rfl ?_;repeat' ((conv=>whnf);first|with_reducible apply af<;>intro _|(refine (Yh h hk h0 h1 h2 h3).use [0] rfl rfl ⟨ko,tU⟩ ?_;rintro _ _ ⟨rfl,G,rfl⟩;refine ⟨[],?_⟩)|(refine aj.pre (eg.more (R:=aA cB 1 da aD []) rfl (bj.gO Jb _)) ?_;refine (SC (v:=aD) (.inl ⟨rfl,rfl⟩) h hk (ho (by assumption))).use [2,3,0] rfl rfl ⟨⟨_,rfl,rfl⟩,ko,ko,tU⟩ ?_;rintro _ _ ⟨rfl,v',d,G,hd,eJ,rfl⟩;refine ⟨[],?_⟩;obtain ⟨A,n,rfl⟩:=mc eJ (by rw[hd];exact UW)))
 all_goals (try conv=>whnf)
 ·rename_i hx;rw[<-hd];exact .inr (.inl ⟨by assumption,by have:=dT1 hx;omega,rfl,_,rfl⟩)
 ·rename_i hx;rw[<-hd];exact .inr (.inr ⟨by assumption,by have:=dF1 hx;omega,A,n,rfl,_,_,_,rfl⟩)
 ·exact .inl ⟨by assumption,rfl,_,rfl⟩
theorem wN{m:Mem}(h:m.dF=true):(0<=m.user/\m.user<=65535)/\(0<=m.role/\m.role<=7)/\(0<=m.jo/\m.jo<=7)/\(0<=m.fL/\m.fL<=65535)/\(0<=m.k/\m.k<=65535):=by
 unfold Mem.dF at h;split at h
 ·have h:=dT1 h;omega
 ·rw[Bool.and_eq_true,Bool.or_eq_true] at h;obtain ⟨h1,h2⟩:=h;unfold Mem.right at h1;have h1:=dT1 h1;simp only[] at h1;have h3:0<=m.k/\m.k<=65535:=by
   rcases h2 with h2|h2<;>have:=dT1 h2<;>omega
  omega
theorem xW:∀(l acc:List cy),(ef l acc).isSome=true->∀k∈l,k.g.right=true
 | [],_,_,k,hk=>by cases hk
 | a::l,acc,h,k,hk=>by
   unfold ef at h;split at h
   ·cases h
   ·rename_i hc;rcases List.mem_cons.1 hk with rfl|hk
    ·simp only[Bool.or_eq_true,not_or,Bool.not_eq_true'] at hc;have:=hc.1.1.1;simpa using this
    ·exact xW l _ h k hk
theorem On{g:Fg}(h:g.right=true):(0<=g.ops/\g.ops<=31)/\(0<=g.bV/\g.bV<=16)/\(0<=g.mD/\g.mD<=4294967295)/\(0<=g.x0/\g.x0<=65535)/\(0<=g.y0/\g.y0<=65535)/\(0<=g.x1/\g.x1<=65535)/\(0<=g.y1/\g.y1<=65535):=by
 unfold Fg.right at h;rw[Bool.and_eq_true] at h;obtain ⟨h1,h2⟩:=h;have h1:=dT1 h1;split at h2
 ·have h2:=dT1 h2;omega
 ·unfold o4 at h2;have h2:=dT1 h2;omega
theorem pw1:(256:Int) ^ 1=256:=rfl
theorem pw2:(256:Int) ^ 2=65536:=rfl
theorem pw4:(256:Int) ^ 4=4294967296:=rfl
theorem pw8:(256:Int) ^ 8=18446744073709551616:=rfl
theorem ri{x:Int}(h:0<=x/\x<=65535):bw 2 x:=⟨h.1,by rw[pw2];omega,by omega⟩
theorem rh{x:Int}(h:0<=x/\x<=255):bw 1 x:=⟨h.1,by rw[pw1];omega,by omega⟩
theorem Mt{x:Int}(h:0<=x/\x<=4294967295):bw 4 x:=⟨h.1,by rw[pw4];omega,by omega⟩
theorem OH{k:cy}(h:k.g.right=true)(hs:k.bH<18446744073709551616/\k.parent<18446744073709551616):AU k:=by
 obtain ⟨h1,h2,h3,h4,h5,h6,h7⟩:=On h;refine ⟨fun p hp x hx=>?_,hs⟩;simp only[kq,List.mem_cons,List.not_mem_nil,or_false] at hp;rcases hp with rfl|rfl|rfl<;>simp only[List.mem_cons,List.not_mem_nil,or_false] at hx
 ·rcases hx with rfl|rfl|rfl
  ·exact rh (by omega)
  ·exact rh (by omega)
  ·refine rh ?_;unfold p7;split<;>omega
 ·rcases hx with rfl|rfl|rfl|rfl<;>exact ri (by omega)
 ·subst hx;exact Mt h3
theorem J2{s:List UInt8}(h:(dP s).2.err=0):s.length<=512:=by
 rcases Nat.lt_or_ge 512 s.length with h1|h1
 ·unfold dP at h;rw[if_pos h1] at h;cases h
 ·exact h1
theorem xE{s:List UInt8}(h:(hU s).2.err=0):s.length<=512:=by
 unfold hU at h;split at h
 ·rename_i h1;unfold parse at h1;split at h1
  ·rename_i h2;exact absurd h1 h2
  ·rename_i h2;exact J2 (by omega)
 ·rename_i h1;exact absurd h h1
theorem JN{R:aC}{q:bG}{tk:List dW}(hk:q.Tk R tk)(h0:q.ms.length<=60000)(h1:q.rs.length<=60000)(h2:q.ss.length<=60000)(h3:q.es.length<=60000)(hA:∀m∈q.ms,0<=m.cu/\m.cu<18446744073709551616)(h:eK q tk=true):He q tk:=by
 unfold eK at h;simp only[Bool.and_eq_true] at h;obtain ⟨hs,⟨hr,_⟩,ht⟩:=h;have hr:=dT1 hr;unfold bG.sound at hs;simp only[Bool.and_eq_true] at hs;obtain ⟨ha,⟨hl,hp⟩,he⟩:=hs;have ha:=dT1 ha;unfold bG.aq at hl;simp only[Bool.and_eq_true] at hl;obtain ⟨⟨_,_,P2⟩,⟨⟨_,_⟩,Xz⟩,hsi⟩:=hl;have P2:∀m∈q.ms,m.dF=true:=fun m hm=>by
  simp only[Bool.not_eq_true',List.any_eq_false] at P2;have:=P2 m hm;simpa using this
 have XJ:∀u∈q.us,0<=u/\u<=65535:=fun u hu=>by
  unfold bG.us at hu;obtain ⟨m,hm,rfl⟩:=List.mem_map.1 hu;exact (wN (P2 m hm)).1
 have iX:∀{l:List Int},(!l.any fun x=>!q.us.any fun y=>x==y)=true->∀x∈l,0<=x/\x<=65535:=fun {l} hl x hx=>by
  simp only[Bool.not_eq_true',List.any_eq_false] at hl;have h4:=hl x hx;cases h5:(q.us.any fun y=>x==y) with
  | false=>exact absurd (fun y hy e=>by rw[List.any_eq_false] at h5;exact h5 y hy e) h4
  | true=>
    obtain ⟨y,hy,e⟩:=List.any_eq_true.1 h5;rw[beq_iff_eq.1 e];exact XJ y hy
 have pV:tk.length=q.ms.length:=by rw[<-hk.nt];exact ha.1
 rw[List.all_eq_true] at ht;refine ⟨⟨ha.2.1,by rw[pw8];omega,by omega⟩,h0,pV,fun i hi lp=>?_,h1,fun x hx=>?_,h2,fun x hx=>?_,Nat.le_trans (xE hr) (by decide),h3,fun x hx=>?_⟩
 ·have hm:=List.getElem_mem hi;have hx:=List.getElem_mem lp;obtain ⟨e1,e2,e3,e4,e5⟩:=wN (P2 _ hm);have hf:=ht _ hx;have hlen:tk[i].l.length<=8:=by
   unfold cw at hf;split at hf
   ·cases hf
   ·omega
  have FR:(ef tk[i].l []).isSome=true:=by
   unfold cw at hf;rw[if_neg (by omega)] at hf;exact hf
  refine ⟨fun p hp x hx=>?_,hA _ hm,hlen,fun k ti=>OH (xW _ _ FR k ti) (hk.bd _ hx k ti)⟩;simp only[oW,List.mem_cons,List.not_mem_nil,or_false] at hp;rcases hp with rfl|rfl|rfl<;>simp only[List.mem_cons,List.not_mem_nil,or_false] at hx
  ·subst hx;exact ri e1
  ·rcases hx with rfl|rfl<;>exact rh (by omega)
  ·rcases hx with rfl|rfl<;>exact ri (by omega)
 ·have h4:=List.all_eq_true.1 hp.1 x hx;unfold bW.bL at h4;rw[Bool.and_eq_true] at h4;have h5:=dT1 h4.1;have h6:=dT1 h4.2;have h7:=iX Xz x.id (List.mem_map.2 ⟨x,hx,rfl⟩);intro p bX y hy;simp only[eu,List.mem_cons,List.not_mem_nil,or_false] at bX;rcases bX with rfl|rfl<;>simp only[List.mem_cons,List.not_mem_nil,or_false] at hy
  ·rcases hy with rfl|rfl|rfl<;>exact ri (by omega)
  ·subst hy;exact rh (by omega)
 ·have h4:=List.all_eq_true.1 hp.2 x hx;unfold df.bL o4 at h4;rw[Bool.and_eq_true] at h4;have h5:=dT1 h4.1;have h6:=dT1 h4.2;have h7:=iX hsi x.id (List.mem_map.2 ⟨x,hx,rfl⟩);intro p bX y hy;simp only[ez,List.mem_cons,List.not_mem_nil,or_false] at bX;rcases bX with rfl|rfl|rfl<;>simp only[List.mem_cons,List.not_mem_nil,or_false] at hy
  ·subst hy;exact ri h7
  ·rcases hy with rfl|rfl|rfl|rfl<;>exact ri (by omega)
  ·subst hy;exact rh (by omega)
 ·simp only[Bool.not_eq_true',List.any_eq_false] at he;have h4:=he x hx;simp only[Bool.not_eq_true',Bool.not_eq_false] at h4;unfold fS.eD at h4;have h4:=dT1 h4;intro p bX y hy;simp only[eh,List.mem_cons,List.not_mem_nil,or_false] at bX;rcases bX with rfl|rfl|rfl<;>simp only[List.mem_cons,List.not_mem_nil,or_false] at hy
  ·subst hy;exact ri (by omega)
  ·rcases hy with rfl|rfl<;>exact rh (by omega)
  ·subst hy;exact Mt (by omega)
theorem AI{α:Type}{one:aH->α×aH}{c:Nat}(h1:∀s,(one s).2.bad=false->(one s).2.l.length+c<=s.l.length)(h2:∀s,(one s).2.l.length<=s.l.length):∀(n:Nat) (s:aH) (acc:List α),c * (bO one n s acc).1.length+(bO one n s acc).2.l.length<=s.l.length+c * acc.length
 | 0,s,acc=>by
   show c * acc.length+s.l.length<=_
   omega
 | n+1,s,acc=>by
   unfold bO;split
   ·have:=h2 s;simp only[List.length_nil,Nat.mul_zero];omega
   ·rename_i hb;have h3:=h1 s (by simpa using hb);have h4:=AI h1 h2 n (one s).2 (acc++[(one s).1]);rw[List.length_append,List.length_singleton,Nat.mul_add] at h4;omega
theorem TL(s:aH):s.mem.2.l.length<=s.l.length:=by
 unfold aH.mem;simp only[];refine Nat.le_trans (AJ Su _ _ _) ?_;refine Nat.le_trans (cj _ _) ?_;refine Nat.le_trans (xi _ _) ?_;refine Nat.le_trans (cj _ _) ?_;refine Nat.le_trans (cj _ _) ?_;refine Nat.le_trans (cj _ _) ?_;refine Nat.le_trans (cj _ _) ?_;exact cj _ _
theorem Mo:∀(n:Nat) (s:aH) (acc:List (Mem×List cy)),2 * (jt n s acc).1.length+(jt n s acc).2.1.l.length<=s.l.length+2 * acc.length
 | 0,s,acc=>by
   unfold jt;simp only[];omega
 | n+1,s,acc=>by
   have h3:=TL s;have h4:=QJ s;unfold jt;obtain ⟨p,hp⟩:∃p,p=s.mem:=⟨_,rfl⟩;rw[<-hp] at h3 h4 ⊢;split
   ·simp only[];omega
   ·rename_i hb;have h4:=h4.resolve_right hb;have h5:=Mo n p.2 (acc++[p.1]);rw[List.length_append,List.length_singleton] at h5;omega
theorem X0(s:aH):0<=s.mem.1.1.cu/\s.mem.1.1.cu<18446744073709551616:=by
 unfold aH.mem;simp only[];have h:=Cd (s:=((((s.num 2).2.num 1).2.num 1).2.num 2).2.num 2 |>.2) (k:=8) (by decide);exact ⟨Int.natCast_nonneg _,by omega⟩
theorem Mn:∀(n:Nat) (s:aH) (acc:List (Mem×List cy)),(∀m∈acc,0<=m.1.cu/\m.1.cu<18446744073709551616)->∀m∈(jt n s acc).1,0<=m.1.cu/\m.1.cu<18446744073709551616
 | 0,s,acc,h=>h
 | n+1,s,acc,h=>by
   unfold jt;split
   ·exact h
   ·exact Mn n _ _ fun m hm=>by
     rcases List.mem_append.1 hm with hm|hm
     ·exact h m hm
     ·rw[List.mem_singleton.1 hm];exact X0 s
theorem Yj{s s':aH}{x:pq}(h:s.mW=(x,s')):∀m∈x.ms,0<=m.1.cu/\m.1.cu<18446744073709551616:=by
 have e:x=s.mW.1:=by rw[h]
 rw[e,MY];exact Mn _ _ _ (fun m hm=>by cases hm)
theorem Yk{s s':aH}{x:pq}(h:s.mW=(x,s')):2 * x.ms.length<=s.l.length/\7 * x.rs.length<=s.l.length/\11 * x.ss.length<=s.l.length/\8 * x.es.length<=s.l.length:=by
 have e:x=s.mW.1:=by rw[h]
 subst e;have h0:=cj 8 s;have h1:=cj 2 (s.num 8).2;have h2:=Mo ((s.num 8).2.num 2).1 ((s.num 8).2.num 2).2 [];unfold aH.mW;simp only[];obtain ⟨m,hm⟩:∃m,m=jt ((s.num 8).2.num 2).1 ((s.num 8).2.num 2).2 []:=⟨_,rfl⟩;rw[<-hm] at h2 ⊢;simp only[List.length_nil,Nat.mul_zero,Nat.add_zero] at h2;split
 ·simp only[List.length_nil,Nat.mul_zero,Nat.zero_le,and_self,and_true];omega
 ·have h3:=cj 2 m.2.1;have h4:=AI (c:=7) (one:=aH.rD) (fun s hb=>by have:=(MF hb).2;omega) CA (m.2.1.num 2).1 (m.2.1.num 2).2 [];obtain ⟨rs,cK⟩:∃rs,rs=bO aH.rD (m.2.1.num 2).1 (m.2.1.num 2).2 []:=⟨_,rfl⟩;rw[<-cK] at h4 ⊢;have h5:=cj 2 rs.2;have h6:=AI (c:=11) (one:=aH.rJ) (fun s hb=>by have:=(MW hb).2;omega) Lv (rs.2.num 2).1 (rs.2.num 2).2 [];obtain ⟨ss,vD⟩:∃ss,ss=bO aH.rJ (rs.2.num 2).1 (rs.2.num 2).2 []:=⟨_,rfl⟩;rw[<-vD] at h6 ⊢;have h7:=cj 2 ss.2;have h8:=M0 (ss.2.num 2).1 (ss.2.num 2).2;have h9:=cj 4 ((ss.2.num 2).2.take (ss.2.num 2).1);have od:=AI (c:=8) (one:=aH.se) (fun s hb=>by have:=(L8 hb).2;omega) Wq (((ss.2.num 2).2.take (ss.2.num 2).1).num 4).1 (((ss.2.num 2).2.take (ss.2.num 2).1).num 4).2 [];simp only[List.length_nil,Nat.mul_zero,Nat.add_zero] at h4 h6 od;refine ⟨?_,?_,?_,?_⟩<;>simp only[]<;>omega
structure Fl(q:bG)(tk:List dW)(q':bG)(gH:List dW):Prop where
 ms:q'.ms=q.ms
 tk:gH.map dW.l=tk.map dW.l
 rs:q'.rs=q.rs
 ss:q'.ss=q.ss
 es:q'.es=q.es
 tx:q'.tx=q.tx
 past:q'.past=q.past
theorem O6{p:List cy->Bool}(tk:List dW):(tk.all fun x=>p x.l)=(tk.map dW.l).all p:=by
 rw[List.all_map];rfl
theorem zA{q q':bG}{tk gH:List dW}(h:Fl q tk q' gH)(hn:q.nt=tk.length)(FW:q'.nt=gH.length):eK q' gH=eK q tk:=by
 have e:q'.nt=q.nt:=by
  rw[hn,FW];have:=congrArg List.length h.tk;simpa using this
 unfold eK bG.sound bG.aq bG.us bG.xH bG.xM bG.s;rw[h.ms,h.rs,h.ss,h.es,h.tx,h.past,e,O6 (p:=fun l=>(cw l).isSome) gH,O6 (p:=fun l=>(cw l).isSome) tk,h.tk]
theorem Mp(ms:List Mem)(tk:List dW):dI ms tk=(ms.zip (tk.map dW.l)).flatMap fun p=>xm p.1 p.2:=by
 unfold dI;rw[List.zip_map_right,List.flatMap_map];rfl
theorem CY{q q':bG}{tk gH:List dW}(h:Fl q tk q' gH):lG q' gH=lG q tk:=by
 unfold lG preB FN bG.s;rw[Mp,Mp,h.ms,h.rs,h.ss,h.es,h.tx,h.past,h.tk]
abbrev uM(b:UInt8):Value:=.int .u8 (b.toNat:Int)
theorem Ib{l m:List UInt8}{k:Nat}(h:l.length=m.length)(hk:k<l.length)(dS:k<m.length):decide (l.drop k=m.drop k)=(decide (l[k]=m[k])&&decide (l.drop (k+1)=m.drop (k+1))):=by
 rw[Bool.eq_iff_iff,Bool.and_eq_true,decide_eq_true_iff,decide_eq_true_iff,decide_eq_true_iff,List.drop_eq_getElem_cons hk,List.drop_eq_getElem_cons dS,List.cons.injEq]
theorem Se{R1 R2:aC}{A B:Option Addr}{c d:Nat}{l m:List UInt8}(hl:cU Tryz.prog R1 da 1 A uM l)(hm:cU Tryz.prog R2 da 1 B uM m)(hn:l.length<=1000000000):CP [] 40 [.lit (.slice A l.length c),.lit (.slice B m.length d)] [.res R1,.res R2] (fun v H'=>v=bA (decide (l=m))/\∃G,H'=.res R1::.res R2::G):=by
 refine ag aa rfl ?_;repeat' ((conv=>whnf);with_reducible apply af<;>intro _)
 all_goals (try conv=>whnf)
 ·rename_i hx;have aP:l.length≠m.length:=fun e=>by rw[e] at hx;simp at hx
  refine ⟨bc (decide_eq_false fun e=>aP (by rw[e])).symm,[],rfl⟩
 ·rename_i hx;have jC:l.length=m.length:=by
   have:=bne_eq_false_iff_eq.1 hx;omega
  refine aV aa rfl (fun k:Nat=>[(0,.lit (.slice A l.length c)),(1,.lit (.slice B m.length d)),(12,iA l.length),(13,iA (k:Nat))]) (fun _=>[.res R1,.res R2]) (fun k=>k<=l.length/\decide (l=m)=decide (l.drop k=m.drop k)) (fun k=>l.length - k) 0 ⟨Nat.zero_le _,rfl⟩ [0,1] ?_ ?_
  ·exact ⟨rfl,⟨rr,rr,rr,rr,tU⟩,⟨ko,ko,tU⟩⟩
  ·rintro k ⟨gl,hr⟩;by_cases hk:k<l.length
   ·have dS:k<m.length:=by omega
    obtain ⟨a,rfl,gT⟩:=hl.at hk;obtain ⟨b,rfl,cQ⟩:=hm.at dS;rw[Ib jC hk dS] at hr;conv=>whnf
    refine af (fun _=>?_) (bT hk);repeat' ((conv=>whnf);first|with_reducible apply af<;>intro _|refine aM.tail aa 8 rfl (by kernel_rfl) ?_|refine cX.bC aa rfl rfl rfl rfl rfl hk ?_|refine cX.bC aa rfl rfl rfl rfl rfl dS ?_|refine cX.aR (i:=0) (v:=.lit (uM l[k])) rfl (fun w S hR=>gT w S hR k hk) rfl rfl ?_|refine cX.aR (i:=1) (v:=.lit (uM m[k])) rfl (fun w S hR=>cQ w S hR k dS) rfl rfl ?_|refine cX.pure aa rfl ?_|refine cX.read aa rfl ?_)
    all_goals (try conv=>whnf)
    ·rename_i hy;have aP:l[k]≠m[k]:=fun e=>by rw[e] at hy;simp at hy
     exact ⟨bc (by rw[hr,decide_eq_false aP];rfl),[],rfl⟩
    ·rename_i hy;have he:l[k]=m[k]:=by
      have h1:=bne_eq_false_iff_eq.1 hy;have h2:l[k].toNat=m[k].toNat:=by omega
      exact UInt8.toNat.inj h2
     rw[decide_eq_true he,Bool.true_and] at hr;exact ⟨k+1,[0,1],⟨⟨hk,hr⟩,by omega⟩,rfl,⟨rr,rr,rr,⟨rfl,ax rfl (ak (by omega) (by omega))⟩,tU⟩,⟨ko,ko,tU⟩⟩
   ·obtain rfl:k=l.length:=by omega
    conv=>whnf
    refine af (cF hk) (fun _=>?_);repeat' ((conv=>whnf);with_reducible apply af<;>intro _)
    all_goals (try conv=>whnf)
    rw[List.drop_length,jC,List.drop_length] at hr;exact ⟨bc (by rw[hr];rfl),[],rfl⟩
def pq.q(x:pq):bG:=⟨x.ms.map (·.1),x.ms.length,x.rs,x.ss,⟨x.tx.toArray⟩,x.es,x.past,none,none,none,none,none,0,0,0,0,0⟩
def pq.tk(x:pq):List dW:=x.ms.map fun m=>⟨none,0,m.2⟩
theorem MR{x:pq}{q:bG}{tk:List dW}(h:AT x q tk):Fl x.q x.tk q tk where
 ms:=h.ms
 tk:=by
  rw[h.tk];unfold pq.tk;rw[List.map_map];rfl
 rs:=h.rs
 ss:=h.ss
 es:=h.es
 tx:=h.tx
 past:=h.past
theorem VS(x:pq):x.q.nt=x.tk.length:=by
 unfold pq.tk;rw[List.length_map];rfl
theorem IU{s s':aH}{x:pq}{q:bG}{tk:List dW}(e:s.mW=(x,s'))(h:AT x q tk)(hl:s.l.length<=65536):(q.ms.length<=60000/\q.rs.length<=60000/\q.ss.length<=60000/\q.es.length<=60000)/\∀m∈q.ms,0<=m.cu/\m.cu<18446744073709551616:=by
 obtain ⟨h1,h2,h3,h4⟩:=Yk e;refine ⟨⟨?_,?_,?_,?_⟩,fun m hm=>?_⟩
 ·rw[h.ms,List.length_map];omega
 ·rw[h.rs];omega
 ·rw[h.ss];omega
 ·rw[h.es];omega
 ·rw[h.ms] at hm;obtain ⟨p,hp,rfl⟩:=List.mem_map.1 hm;exact Yj e p hp
def Ff(s:aH):Prop:=s.mW.2.bad=false/\eK s.mW.1.q s.mW.1.tk=true/\lG s.mW.1.q s.mW.1.tk=s.l
def GW:List AV:=[.lit aD,.lit aD,.lit aD,.lit aD,.lit (.string ⟨#[]⟩),.lit aD,iA 0]
def OR(R:aC)(s:aH)(v:AV)(H':List ai):Prop:=
 (65536<s.l.length/\v=.tuple [.agg GW,iA 2]/\∃G,H'=.res R::G) \/
 (s.l.length<=65536/\¬Ff s/\v=.tuple [.agg GW,iA 61]/\∃G,H'=.res R::G) \/
 (s.l.length<=65536/\Ff s/\∃q tk RR,AT s.mW.1 q tk/\q.Rd RR/\q.Tk RR tk/\O3 RR tk/\v=.tuple [.agg q.a,iA 0]/\∃G1 G2 G,H'=.res R::G1::G2::.res RR::G)
theorem Jc{A:Addr}{n:Nat}{l:List UInt8}:cU Tryz.prog (aA cB 1 da (.slice (some A) l.length n) l) da 1 (some A) uM l:=fun aP=>by
 by_cases hw:∃w S,(aA cB 1 da (.slice (some A) l.length n) l).at_ w S
 ·exact Gk hw aP
 ·exact ⟨A,rfl,fun w S h=>absurd ⟨w,S,h⟩ hw⟩
theorem L2{R:aC}{oa:Option Addr}{c:Nat}{l:List UInt8}{b:Bool}(h:(⟨oa,c,l,b⟩:aH).Ok R):cU Tryz.prog R da 1 oa uM l:=by
 cases oa with
 | none=>
   obtain rfl:=(h.nil rfl).1;exact cU.nil
 | some a=>
   obtain ⟨b,off,rfl,hb⟩:=h.KX a rfl;exact cU.cells aa Bf fun _=>⟨b,off,rfl,fun w S hw=>by
    rw[<-Fu];exact hb.lay w S hw⟩
theorem Rw{R:aC}{oa:Option Addr}{c:Nat}{l:List UInt8}(h:(⟨oa,c,l,false⟩:aH).Ok R):CP [] 15 [.lit (.slice oa l.length c)] [.res R] (OR R ⟨oa,c,l,false⟩):=by
 have sY:=L2 h;refine ag aa rfl ?_;refine eX.of rfl rfl ?_;refine aI.az fun F hF=>?_;repeat' ((conv=>whnf);first|(show F _ _ _;subst hF;refine aI.az fun F hF=>?_)|(show F _ _ _;subst hF))
 conv=>whnf
 refine af (fun hl=>?_) (fun hl=>?_)
 ·have hl:=dT1 hl;repeat' ((conv=>whnf);first|(show F _ _ _;subst hF;refine aI.az fun F hF=>?_)|(show F _ _ _;subst hF))
  all_goals (try conv=>whnf)
  exact .inl ⟨by show 65536<l.length;omega,rfl,_,rfl⟩
 have hl:l.length<=65536:=by
  have:=dF1 hl;omega
 repeat' ((conv=>whnf);first|(show F _ _ _;subst hF;refine aI.az fun F hF=>?_)|(show F _ _ _;subst hF))
 conv=>whnf
 refine (UK h (by show l.length<=_;omega)).use [2,0] rfl rfl ⟨⟨_,rfl,rfl⟩,ko,tU⟩ ?_;rintro _ _ ⟨x,s',q,tk,RR,G,e1,h1,hg,rfl,rfl⟩;refine ⟨[2],?_⟩;repeat' ((conv=>whnf);first|(show F _ _ _;subst hF;refine aI.az fun F hF=>?_)|(show F _ _ _;subst hF))
 conv=>whnf
 refine af (fun hb=>?_) (fun hb=>?_)
 ·repeat' ((conv=>whnf);first|(show F _ _ _;subst hF;refine aI.az fun F hF=>?_)|(show F _ _ _;subst hF))
  all_goals (try conv=>whnf)
  exact .inr (.inl ⟨hl,(fun hd=>by have:=hd.1;rw[e1] at this;simp only[] at this;rw[hb] at this;cases this),rfl,_,rfl⟩)
 obtain ⟨kV,bu,lL,Xc⟩:=hg hb;obtain ⟨⟨l0,l1,l2,l3⟩,hA⟩:=IU e1 kV hl;have NV:=MR kV;have hi:eK q tk=eK x.q x.tk:=zA NV (VS x) lL.nt;have hB:lG q tk=lG x.q x.tk:=CY NV;have NK:Ff ⟨oa,c,l,false⟩↔eK q tk=true/\lG q tk=l:=by
  unfold Ff;rw[e1,hi,hB];simp only[hb,true_and]
 repeat' ((conv=>whnf);first|(show F _ _ _;subst hF;refine aI.az fun F hF=>?_)|(show F _ _ _;subst hF))
 conv=>whnf
 refine (Sd bu lL l0 l1 l2 l3 (fun hi=>JN lL l0 l1 l2 l3 hA hi)).use [3] rfl rfl ⟨ko,tU⟩ ?_;rintro _ _ (⟨i1,rfl,G2,rfl⟩|⟨i1,i2,rfl,G2,rfl⟩|⟨i1,i2,A,n,rfl,Ga,Gb,G2,rfl⟩)
 ·refine ⟨[],?_⟩;repeat' ((conv=>whnf);first|(show F _ _ _;subst hF;refine aI.az fun F hF=>?_)|(show F _ _ _;subst hF))
  all_goals (try conv=>whnf)
  exact .inr (.inl ⟨hl,(fun hd=>by have:=(NK.1 hd).1;rw[i1] at this;cases this),rfl,_,rfl⟩)
 ·refine ⟨[],?_⟩;repeat' ((conv=>whnf);first|(show F _ _ _;subst hF;refine aI.az fun F hF=>?_)|(show F _ _ _;subst hF))
  all_goals (try conv=>whnf)
  exact .inr (.inl ⟨hl,(fun hd=>by have:=(NK.1 hd).2;rw[this] at i2;omega),rfl,_,rfl⟩)
 ·obtain ⟨d,hd⟩:∃d,d=lG q tk:=⟨_,rfl⟩;rw[<-hd] at i2 NK ⊢;refine ⟨[3],?_⟩;repeat' ((conv=>whnf);first|(show F _ _ _;subst hF;refine aI.az fun F hF=>?_)|(show F _ _ _;subst hF))
  conv=>whnf
  refine (Se (c:=n) (d:=c) (Jc (A:=A) (n:=n) (l:=d)) sY (by omega)).use [5,0] rfl rfl ⟨ko,ko,tU⟩ ?_;rintro _ _ ⟨rfl,G3,rfl⟩;refine ⟨[],?_⟩;conv=>whnf
  refine af (fun hq=>?_) (fun hq=>?_)
  ·have hq:=dT1 hq;repeat' ((conv=>whnf);first|(show F _ _ _;subst hF;refine aI.az fun F hF=>?_)|(show F _ _ _;subst hF))
   all_goals (try conv=>whnf)
   have aaa:AT (aH.mW ⟨oa,c,l,false⟩).1 q tk:=by rw[e1];exact kV
   have hd:=NK.2 ⟨i1,hq⟩;clear NK hq NV hB hi;refine .inr (.inr ⟨hl,hd,q,tk,RR,aaa,bu,lL,Xc,?_,?_⟩)
   ·rfl
   ·exact ⟨_,_,_,rfl⟩
  ·have hq:=dF1 hq;repeat' ((conv=>whnf);first|(show F _ _ _;subst hF;refine aI.az fun F hF=>?_)|(show F _ _ _;subst hF))
   all_goals (try conv=>whnf)
   exact .inr (.inl ⟨hl,fun hd=>hq (NK.1 hd).2,rfl,_,rfl⟩)
def pf{α:Type}(eq:α->α->Bool):List α->List α->Bool
 | [],[]=>true
 | a::l,b::m=>eq a b&&pf eq l m
 | _,_=>false
theorem qe{α:Type}{eq:α->α->Bool}:∀{l m:List α},l.length≠m.length->pf eq l m=false
 | [],[],h=>absurd rfl h
 | [],_::_,_=>rfl
 | _::_,[],_=>rfl
 | a::l,b::m,h=>by
   unfold pf;rw[qe (l:=l) (m:=m) (by simpa using h),Bool.and_false]
theorem qf{α:Type}{eq:α->α->Bool}{l m:List α}{k:Nat}(hk:k<l.length)(dS:k<m.length):pf eq (l.drop k) (m.drop k)=(eq l[k] m[k]&&pf eq (l.drop (k+1)) (m.drop (k+1))):=by
 rw[List.drop_eq_getElem_cons hk,List.drop_eq_getElem_cons dS];rfl
theorem oC{α:Type}{eq:α->α->Bool}(h:∀a,eq a a=true):∀l,pf eq l l=true
 | []=>rfl
 | a::l=>by unfold pf;rw[h,oC h l];rfl
theorem wP{b c:Bool}(h:b=!c):c=!b:=by rw[h,Bool.not_not]
def Mem.eqv(a b:Mem):Bool:=a.user==b.user&&(a.role==b.role&&(a.jo==b.jo&&(a.fL==b.fL&&(a.k==b.k&&(a.cu==b.cu&&true)))))
theorem Mem.j7(a:Mem):a.eqv a=true:=by simp[Mem.eqv]
def bW.eqv(a b:bW):Bool:=a.id==b.id&&(a.x==b.x&&(a.y==b.y&&(a.label==b.label&&true)))
theorem bW.j7(a:bW):a.eqv a=true:=by simp[bW.eqv]
def df.eqv(a b:df):Bool:=a.id==b.id&&(a.x0==b.x0&&(a.y0==b.y0&&(a.x1==b.x1&&(a.y1==b.y1&&(a.label==b.label&&true)))))
theorem df.j7(a:df):a.eqv a=true:=by simp[df.eqv]
def fS.eqv(a b:fS):Bool:=a.user==b.user&&(a.op==b.op&&(a.status==b.status&&(a.tick==b.tick&&true)))
theorem fS.j7(a:fS):a.eqv a=true:=by simp[fS.eqv]
def cy.eqv(a b:cy):Bool:=((a.bH:Nat):Int)==((b.bH:Nat):Int)&&(((a.parent:Nat):Int)==((b.parent:Nat):Int)&&(a.g.ops==b.g.ops&&(a.g.bV==b.g.bV&&(a.g.x0==b.g.x0&&(a.g.y0==b.g.y0&&(a.g.x1==b.g.x1&&(a.g.y1==b.g.y1&&(a.g.void==b.g.void&&(a.g.mD==b.g.mD&&true)))))))))
theorem cy.j7(a:cy):a.eqv a=true:=by simp[cy.eqv]
theorem UE{R1 R2:aC}{A B:Option Addr}{c d:Nat}{l m:List Mem}(hl:cU Tryz.prog R1 51 6 A mC l)(hm:cU Tryz.prog R2 51 6 B mC m)(hn:l.length<=1000000000):CP [] 41 [.lit (.slice A l.length c),.lit (.slice B m.length d)] [.res R1,.res R2] (fun v H'=>v=bA (pf Mem.eqv l m)/\∃G,H'=.res R1::.res R2::G):=by
 refine ag aa rfl ?_;repeat' ((conv=>whnf);with_reducible apply af<;>intro _)
 all_goals (try conv=>whnf)
 ·rename_i hx;have aP:l.length≠m.length:=fun e=>by rw[e] at hx;simp at hx
  exact ⟨bc (qe aP).symm,[],rfl⟩
 ·rename_i hx;have jC:l.length=m.length:=by
   have:=bne_eq_false_iff_eq.1 hx;omega
  refine aV aa rfl (fun k:Nat=>[(0,.lit (.slice A l.length c)),(1,.lit (.slice B m.length d)),(5,iA (k:Nat))]) (fun _=>[.res R1,.res R2]) (fun k=>k<=l.length/\pf Mem.eqv l m=pf Mem.eqv (l.drop k) (m.drop k)) (fun k=>l.length - k) 0 ⟨Nat.zero_le _,rfl⟩ [0,1] ?_ ?_
  ·exact ⟨rfl,⟨rr,rr,rr,tU⟩,⟨ko,ko,tU⟩⟩
  ·rintro k ⟨gl,hr⟩;by_cases hk:k<l.length
   ·have dS:k<m.length:=by omega
    obtain ⟨a,rfl,gT⟩:=hl.at hk;obtain ⟨b,rfl,cQ⟩:=hm.at dS;rw[qf hk dS] at hr;conv=>whnf
    refine af (fun _=>?_) (bT hk);repeat' ((conv=>whnf);first|with_reducible apply af<;>intro _|refine aM.tail aa 8 rfl (by kernel_rfl) ?_|refine cX.bC aa rfl rfl rfl rfl rfl hk ?_|refine cX.bC aa rfl rfl rfl rfl rfl dS ?_|refine cX.aR (i:=0) (v:=.agg (mA l[k])) rfl (fun w S hR=>gT w S hR k hk) rfl rfl ?_|refine cX.aR (i:=1) (v:=.agg (mA m[k])) rfl (fun w S hR=>cQ w S hR k dS) rfl rfl ?_|refine cX.pure aa rfl ?_|refine cX.read aa rfl ?_)
    all_goals (try conv=>whnf)
    all_goals (rename_i hy;replace hy:Mem.eqv l[k] m[k]=_:=wP hy.symm)
    ·exact ⟨bc (by rw[hr,hy];rfl),[],rfl⟩
    ·rw[hy,Bool.not_false,Bool.true_and] at hr;exact ⟨k+1,[0,1],⟨⟨hk,hr⟩,by omega⟩,rfl,⟨rr,rr,⟨rfl,ax rfl (ak (by omega) (by omega))⟩,tU⟩,⟨ko,ko,tU⟩⟩
   ·obtain rfl:k=l.length:=by omega
    conv=>whnf
    refine af (cF hk) (fun _=>?_);repeat' ((conv=>whnf);with_reducible apply af<;>intro _)
    all_goals (try conv=>whnf)
    rw[List.drop_length,jC,List.drop_length] at hr;exact ⟨bc (by rw[hr];rfl),[],rfl⟩
theorem UF{R1 R2:aC}{A B:Option Addr}{c d:Nat}{l m:List bW}(hl:cU Tryz.prog R1 72 4 A yS l)(hm:cU Tryz.prog R2 72 4 B yS m)(hn:l.length<=1000000000):CP [] 42 [.lit (.slice A l.length c),.lit (.slice B m.length d)] [.res R1,.res R2] (fun v H'=>v=bA (pf bW.eqv l m)/\∃G,H'=.res R1::.res R2::G):=by
 refine ag aa rfl ?_;repeat' ((conv=>whnf);with_reducible apply af<;>intro _)
 all_goals (try conv=>whnf)
 ·rename_i hx;have aP:l.length≠m.length:=fun e=>by rw[e] at hx;simp at hx
  exact ⟨bc (qe aP).symm,[],rfl⟩
 ·rename_i hx;have jC:l.length=m.length:=by
   have:=bne_eq_false_iff_eq.1 hx;omega
  refine aV aa rfl (fun k:Nat=>[(0,.lit (.slice A l.length c)),(1,.lit (.slice B m.length d)),(5,iA (k:Nat))]) (fun _=>[.res R1,.res R2]) (fun k=>k<=l.length/\pf bW.eqv l m=pf bW.eqv (l.drop k) (m.drop k)) (fun k=>l.length - k) 0 ⟨Nat.zero_le _,rfl⟩ [0,1] ?_ ?_
  ·exact ⟨rfl,⟨rr,rr,rr,tU⟩,⟨ko,ko,tU⟩⟩
  ·rintro k ⟨gl,hr⟩;by_cases hk:k<l.length
   ·have dS:k<m.length:=by omega
    obtain ⟨a,rfl,gT⟩:=hl.at hk;obtain ⟨b,rfl,cQ⟩:=hm.at dS;rw[qf hk dS] at hr;conv=>whnf
    refine af (fun _=>?_) (bT hk);repeat' ((conv=>whnf);first|with_reducible apply af<;>intro _|refine aM.tail aa 8 rfl (by kernel_rfl) ?_|refine cX.bC aa rfl rfl rfl rfl rfl hk ?_|refine cX.bC aa rfl rfl rfl rfl rfl dS ?_|refine cX.aR (i:=0) (v:=.agg (lE l[k])) rfl (fun w S hR=>gT w S hR k hk) rfl rfl ?_|refine cX.aR (i:=1) (v:=.agg (lE m[k])) rfl (fun w S hR=>cQ w S hR k dS) rfl rfl ?_|refine cX.pure aa rfl ?_|refine cX.read aa rfl ?_)
    all_goals (try conv=>whnf)
    all_goals (rename_i hy;replace hy:bW.eqv l[k] m[k]=_:=wP hy.symm)
    ·exact ⟨bc (by rw[hr,hy];rfl),[],rfl⟩
    ·rw[hy,Bool.not_false,Bool.true_and] at hr;exact ⟨k+1,[0,1],⟨⟨hk,hr⟩,by omega⟩,rfl,⟨rr,rr,⟨rfl,ax rfl (ak (by omega) (by omega))⟩,tU⟩,⟨ko,ko,tU⟩⟩
   ·obtain rfl:k=l.length:=by omega
    conv=>whnf
    refine af (cF hk) (fun _=>?_);repeat' ((conv=>whnf);with_reducible apply af<;>intro _)
    all_goals (try conv=>whnf)
    rw[List.drop_length,jC,List.drop_length] at hr;exact ⟨bc (by rw[hr];rfl),[],rfl⟩
theorem UG{R1 R2:aC}{A B:Option Addr}{c d:Nat}{l m:List df}(hl:cU Tryz.prog R1 78 6 A JK l)(hm:cU Tryz.prog R2 78 6 B JK m)(hn:l.length<=1000000000):CP [] 43 [.lit (.slice A l.length c),.lit (.slice B m.length d)] [.res R1,.res R2] (fun v H'=>v=bA (pf df.eqv l m)/\∃G,H'=.res R1::.res R2::G):=by
 refine ag aa rfl ?_;repeat' ((conv=>whnf);with_reducible apply af<;>intro _)
 all_goals (try conv=>whnf)
 ·rename_i hx;have aP:l.length≠m.length:=fun e=>by rw[e] at hx;simp at hx
  exact ⟨bc (qe aP).symm,[],rfl⟩
 ·rename_i hx;have jC:l.length=m.length:=by
   have:=bne_eq_false_iff_eq.1 hx;omega
  refine aV aa rfl (fun k:Nat=>[(0,.lit (.slice A l.length c)),(1,.lit (.slice B m.length d)),(5,iA (k:Nat))]) (fun _=>[.res R1,.res R2]) (fun k=>k<=l.length/\pf df.eqv l m=pf df.eqv (l.drop k) (m.drop k)) (fun k=>l.length - k) 0 ⟨Nat.zero_le _,rfl⟩ [0,1] ?_ ?_
  ·exact ⟨rfl,⟨rr,rr,rr,tU⟩,⟨ko,ko,tU⟩⟩
  ·rintro k ⟨gl,hr⟩;by_cases hk:k<l.length
   ·have dS:k<m.length:=by omega
    obtain ⟨a,rfl,gT⟩:=hl.at hk;obtain ⟨b,rfl,cQ⟩:=hm.at dS;rw[qf hk dS] at hr;conv=>whnf
    refine af (fun _=>?_) (bT hk);repeat' ((conv=>whnf);first|with_reducible apply af<;>intro _|refine aM.tail aa 8 rfl (by kernel_rfl) ?_|refine cX.bC aa rfl rfl rfl rfl rfl hk ?_|refine cX.bC aa rfl rfl rfl rfl rfl dS ?_|refine cX.aR (i:=0) (v:=.agg (pG l[k])) rfl (fun w S hR=>gT w S hR k hk) rfl rfl ?_|refine cX.aR (i:=1) (v:=.agg (pG m[k])) rfl (fun w S hR=>cQ w S hR k dS) rfl rfl ?_|refine cX.pure aa rfl ?_|refine cX.read aa rfl ?_)
    all_goals (try conv=>whnf)
    all_goals (rename_i hy;replace hy:df.eqv l[k] m[k]=_:=wP hy.symm)
    ·exact ⟨bc (by rw[hr,hy];rfl),[],rfl⟩
    ·rw[hy,Bool.not_false,Bool.true_and] at hr;exact ⟨k+1,[0,1],⟨⟨hk,hr⟩,by omega⟩,rfl,⟨rr,rr,⟨rfl,ax rfl (ak (by omega) (by omega))⟩,tU⟩,⟨ko,ko,tU⟩⟩
   ·obtain rfl:k=l.length:=by omega
    conv=>whnf
    refine af (cF hk) (fun _=>?_);repeat' ((conv=>whnf);with_reducible apply af<;>intro _)
    all_goals (try conv=>whnf)
    rw[List.drop_length,jC,List.drop_length] at hr;exact ⟨bc (by rw[hr];rfl),[],rfl⟩
theorem UD{R1 R2:aC}{A B:Option Addr}{c d:Nat}{l m:List fS}(hl:cU Tryz.prog R1 81 4 A Px l)(hm:cU Tryz.prog R2 81 4 B Px m)(hn:l.length<=1000000000):CP [] 44 [.lit (.slice A l.length c),.lit (.slice B m.length d)] [.res R1,.res R2] (fun v H'=>v=bA (pf fS.eqv l m)/\∃G,H'=.res R1::.res R2::G):=by
 refine ag aa rfl ?_;repeat' ((conv=>whnf);with_reducible apply af<;>intro _)
 all_goals (try conv=>whnf)
 ·rename_i hx;have aP:l.length≠m.length:=fun e=>by rw[e] at hx;simp at hx
  exact ⟨bc (qe aP).symm,[],rfl⟩
 ·rename_i hx;have jC:l.length=m.length:=by
   have:=bne_eq_false_iff_eq.1 hx;omega
  refine aV aa rfl (fun k:Nat=>[(0,.lit (.slice A l.length c)),(1,.lit (.slice B m.length d)),(5,iA (k:Nat))]) (fun _=>[.res R1,.res R2]) (fun k=>k<=l.length/\pf fS.eqv l m=pf fS.eqv (l.drop k) (m.drop k)) (fun k=>l.length - k) 0 ⟨Nat.zero_le _,rfl⟩ [0,1] ?_ ?_
  ·exact ⟨rfl,⟨rr,rr,rr,tU⟩,⟨ko,ko,tU⟩⟩
  ·rintro k ⟨gl,hr⟩;by_cases hk:k<l.length
   ·have dS:k<m.length:=by omega
    obtain ⟨a,rfl,gT⟩:=hl.at hk;obtain ⟨b,rfl,cQ⟩:=hm.at dS;rw[qf hk dS] at hr;conv=>whnf
    refine af (fun _=>?_) (bT hk);repeat' ((conv=>whnf);first|with_reducible apply af<;>intro _|refine aM.tail aa 8 rfl (by kernel_rfl) ?_|refine cX.bC aa rfl rfl rfl rfl rfl hk ?_|refine cX.bC aa rfl rfl rfl rfl rfl dS ?_|refine cX.aR (i:=0) (v:=.agg (Bt l[k])) rfl (fun w S hR=>gT w S hR k hk) rfl rfl ?_|refine cX.aR (i:=1) (v:=.agg (Bt m[k])) rfl (fun w S hR=>cQ w S hR k dS) rfl rfl ?_|refine cX.pure aa rfl ?_|refine cX.read aa rfl ?_)
    all_goals (try conv=>whnf)
    all_goals (rename_i hy;replace hy:fS.eqv l[k] m[k]=_:=wP hy.symm)
    ·exact ⟨bc (by rw[hr,hy];rfl),[],rfl⟩
    ·rw[hy,Bool.not_false,Bool.true_and] at hr;exact ⟨k+1,[0,1],⟨⟨hk,hr⟩,by omega⟩,rfl,⟨rr,rr,⟨rfl,ax rfl (ak (by omega) (by omega))⟩,tU⟩,⟨ko,ko,tU⟩⟩
   ·obtain rfl:k=l.length:=by omega
    conv=>whnf
    refine af (cF hk) (fun _=>?_);repeat' ((conv=>whnf);with_reducible apply af<;>intro _)
    all_goals (try conv=>whnf)
    rw[List.drop_length,jC,List.drop_length] at hr;exact ⟨bc (by rw[hr];rfl),[],rfl⟩
theorem UH{R1 R2:aC}{A B:Option Addr}{c d:Nat}{l m:List cy}(hl:cU Tryz.prog R1 96 10 A sa l)(hm:cU Tryz.prog R2 96 10 B sa m)(hn:l.length<=1000000000):CP [] 45 [.lit (.slice A l.length c),.lit (.slice B m.length d)] [.res R1,.res R2] (fun v H'=>v=bA (pf cy.eqv l m)/\∃G,H'=.res R1::.res R2::G):=by
 refine ag aa rfl ?_;repeat' ((conv=>whnf);with_reducible apply af<;>intro _)
 all_goals (try conv=>whnf)
 ·rename_i hx;have aP:l.length≠m.length:=fun e=>by rw[e] at hx;simp at hx
  exact ⟨bc (qe aP).symm,[],rfl⟩
 ·rename_i hx;have jC:l.length=m.length:=by
   have:=bne_eq_false_iff_eq.1 hx;omega
  refine aV aa rfl (fun k:Nat=>[(0,.lit (.slice A l.length c)),(1,.lit (.slice B m.length d)),(5,iA (k:Nat))]) (fun _=>[.res R1,.res R2]) (fun k=>k<=l.length/\pf cy.eqv l m=pf cy.eqv (l.drop k) (m.drop k)) (fun k=>l.length - k) 0 ⟨Nat.zero_le _,rfl⟩ [0,1] ?_ ?_
  ·exact ⟨rfl,⟨rr,rr,rr,tU⟩,⟨ko,ko,tU⟩⟩
  ·rintro k ⟨gl,hr⟩;by_cases hk:k<l.length
   ·have dS:k<m.length:=by omega
    obtain ⟨a,rfl,gT⟩:=hl.at hk;obtain ⟨b,rfl,cQ⟩:=hm.at dS;rw[qf hk dS] at hr;conv=>whnf
    refine af (fun _=>?_) (bT hk);repeat' ((conv=>whnf);first|with_reducible apply af<;>intro _|refine aM.tail aa 8 rfl (by kernel_rfl) ?_|refine cX.bC aa rfl rfl rfl rfl rfl hk ?_|refine cX.bC aa rfl rfl rfl rfl rfl dS ?_|refine cX.aR (i:=0) (v:=.agg (rO l[k])) rfl (fun w S hR=>gT w S hR k hk) rfl rfl ?_|refine cX.aR (i:=1) (v:=.agg (rO m[k])) rfl (fun w S hR=>cQ w S hR k dS) rfl rfl ?_|refine cX.pure aa rfl ?_|refine cX.read aa rfl ?_)
    all_goals (try conv=>whnf)
    all_goals (rename_i hy;replace hy:cy.eqv l[k] m[k]=_:=wP hy.symm)
    ·exact ⟨bc (by rw[hr,hy];rfl),[],rfl⟩
    ·rw[hy,Bool.not_false,Bool.true_and] at hr;exact ⟨k+1,[0,1],⟨⟨hk,hr⟩,by omega⟩,rfl,⟨rr,rr,⟨rfl,ax rfl (ak (by omega) (by omega))⟩,tU⟩,⟨ko,ko,tU⟩⟩
   ·obtain rfl:k=l.length:=by omega
    conv=>whnf
    refine af (cF hk) (fun _=>?_);repeat' ((conv=>whnf);with_reducible apply af<;>intro _)
    all_goals (try conv=>whnf)
    rw[List.drop_length,jC,List.drop_length] at hr;exact ⟨bc (by rw[hr];rfl),[],rfl⟩
theorem RS{R1 R2:aC}{q q':bG}{tk gH:List dW}(h1:q.Rd R1)(k1:q.Tk R1 tk)(h2:q'.Rd R2)(k2:q'.Tk R2 gH)(h:Fl q tk q' gH)(l0:q.ms.length<=60000)(lt:q.nt<=60000)(l1:q.rs.length<=60000)(l2:q.ss.length<=60000)(l3:q.es.length<=1000000000)(l4:∀x∈tk,x.l.length<=1000000000) :
  CP [] 16 [.agg q.a,.agg q'.a] [.res R1,.res R2] (fun v H'=>v=bA true/\∃G,H'=.res R1::.res R2::G):=by
 have pV:gH.length=tk.length:=by
  have:=congrArg List.length h.tk;simpa using this
 have Qd:q'.nt=q.nt:=by rw[k1.nt,k2.nt,pV]
 have pj:=h2.ms;have cK:=h2.rs;have vD:=h2.ss;have pg:=h2.es;have htt:=k2.rd;rw[h.ms] at pj;rw[h.rs] at cK;rw[h.ss] at vD;rw[h.es] at pg;have e:q'.a=[.lit (.slice q'.om q.ms.length q'.cm),.lit (.slice q'.ot q.nt q'.ct),.lit (.slice q'.oZ q.rs.length q'.cr),.lit (.slice q'.os q.ss.length q'.cs),.lit (.string q.tx),.lit (.slice q'.oe q.es.length q'.ce),iA q.past]:=by
  unfold bG.a;rw[h.ms,h.rs,h.ss,h.es,h.tx,h.past,Qd]
 rw[e];refine ag aa rfl ?_;repeat' ((conv=>whnf);first|with_reducible apply af<;>intro _|(refine (UE (c:=q.cm) (d:=q'.cm) h1.ms pj (by omega)).use [0,1] rfl rfl ⟨ko,ko,tU⟩ ?_;rintro _ _ ⟨rfl,G1,rfl⟩;rw[oC Mem.j7];refine ⟨[],?_⟩)|(refine (UF (c:=q.cr) (d:=q'.cr) h1.rs cK (by omega)).use [0,1] rfl rfl ⟨ko,ko,tU⟩ ?_;rintro _ _ ⟨rfl,G2,rfl⟩;rw[oC bW.j7];refine ⟨[],?_⟩)|(refine (UG (c:=q.cs) (d:=q'.cs) h1.ss vD (by omega)).use [0,1] rfl rfl ⟨ko,ko,tU⟩ ?_;rintro _ _ ⟨rfl,G3,rfl⟩;rw[oC df.j7];refine ⟨[],?_⟩)|(refine (UD (c:=q.ce) (d:=q'.ce) h1.es pg l3).use [0,1] rfl rfl ⟨ko,ko,tU⟩ ?_;rintro _ _ ⟨rfl,G4,rfl⟩;rw[oC fS.j7];refine ⟨[],?_⟩))
 all_goals (try conv=>whnf)
 ·rename_i hx;simp at hx
 ·rename_i hx;simp at hx
 ·rename_i hx;simp at hx
 ·clear e;refine aV aa rfl (fun k:Nat=>[(2,.ptr 2 0),(3,.ptr 3 0),(5,iA (k:Nat))]) (fun _=>[.res R1,.res R2,.cells q.a 28,.cells [.lit (.slice q'.om q.ms.length q'.cm),.lit (.slice q'.ot q.nt q'.ct),.lit (.slice q'.oZ q.rs.length q'.cr),.lit (.slice q'.os q.ss.length q'.cs),.lit (.string q.tx),.lit (.slice q'.oe q.es.length q'.ce),iA q.past] 28]) (fun k=>k<=q.nt) (fun k=>q.nt - k) 0 (Nat.zero_le _) [0,1,2,3] ?_ ?_
  ·exact ⟨rfl,⟨rr,rr,rr,tU⟩,⟨ko,ko,⟨_,rfl,rfl⟩,⟨_,rfl,rfl⟩,tU⟩⟩
  ·intro k gl;have Xs:=k1.nt;by_cases hk:k<q.nt
   ·have eQ:k<tk.length:=by omega
    have dS:k<gH.length:=by omega
    obtain ⟨a,ha,gT⟩:=k1.rd.at eQ;obtain ⟨b,hb,cQ⟩:=htt.at dS;have hl:gH[k].l=tk[k].l:=by
     have e1:(gH.map dW.l)[k]'(by simpa using dS)=(tk.map dW.l)[k]'(by simpa using eQ):=by simp only[h.tk]
     simpa using e1
    have KJ:=k1.el _ (List.getElem_mem eQ);have yu:=k2.el _ (List.getElem_mem dS);have oS:=l4 _ (List.getElem_mem eQ);rw[hl] at yu;have e2:lN gH[k]=.slice gH[k].oa tk[k].l.length gH[k].c:=by unfold lN;rw[hl]
    have hrd2':∀w S,R2.at_ w S->(loadVar 52 (b.add (k * 1))).run Tryz.prog w=.ok (.slice gH[k].oa tk[k].l.length gH[k].c) w:=fun w S hR=>by rw[<-e2];exact cQ w S hR k dS
    simp only[ha,hb,bG.a];conv=>whnf
    refine af (fun _=>?_) (bT hk);repeat' ((conv=>whnf);first|with_reducible apply af<;>intro _|refine aM.tail aa 10 rfl (by kernel_rfl) ?_|refine cX.bC aa rfl rfl rfl rfl rfl hk ?_|refine cX.aR (i:=0) (v:=.lit (lN tk[k])) rfl (fun w S hR=>gT w S hR k eQ) rfl rfl ?_|refine cX.aR (i:=1) (v:=.lit (.slice gH[k].oa tk[k].l.length gH[k].c)) rfl hrd2' rfl rfl ?_|refine cX.pure aa rfl ?_|refine cX.read aa rfl ?_|(refine (UH (c:=tk[k].c) (d:=gH[k].c) KJ yu oS).use [0,1] rfl rfl ⟨ko,ko,tU⟩ ?_;rintro _ _ ⟨rfl,G1,rfl⟩;rw[oC cy.j7];refine ⟨[],?_⟩))
    all_goals (try conv=>whnf)
    exact ⟨k+1,[0,1,2,3],⟨hk,by omega⟩,rfl,⟨rr,rr,⟨rfl,ax rfl (ak (by omega) (by omega))⟩,tU⟩,⟨ko,ko,⟨_,rfl,rfl⟩,⟨_,rfl,rfl⟩,tU⟩⟩
   ·simp only[bG.a];conv=>whnf
    refine af (cF hk) (fun _=>?_);repeat' ((conv=>whnf);with_reducible apply af<;>intro _)
    all_goals (try conv=>whnf)
    exact ⟨rfl,_,rfl⟩
