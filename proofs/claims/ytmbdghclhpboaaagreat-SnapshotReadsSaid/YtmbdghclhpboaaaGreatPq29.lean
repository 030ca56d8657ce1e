/- Part of the proof: Ppr. Conditions: as each states. -/
import Derived.Test.YtmbdghclhpboaaaGreatPq28
set_option linter.all false
set_option maxRecDepth 100000
namespace Go.Proofs.YtmbdghclhpboaaaGreat
open Ev
theorem EZ{α:Type}{enc:α->List Value}{k:Nat}{e:TypeId}{base:Nat}{w0 w:World}{S:Nat->Prop}{v:Value}{l:List α}(h:Own enc k e w0 base v l)(hw:(pN base w0).at_ w S):Own enc k e w base v l:=
 h.mu fun b hb=>hw.2 b (h.lt b hb).1 (h.lt b hb).2
theorem SW:∃r,ev.ty 175=some r/\r.info.size=24/\bQ r.bp=true:=⟨_,rfl,rfl,rfl⟩
theorem LZ:∃r,ev.ty oA=some r/\r.info.size=4/\bQ r.bp=true:=⟨_,rfl,rfl,rfl⟩
abbrev GL:TypeId:=317
theorem cX.kN{t:aE}{H:List ai}{K:AV->Prop}{ty:TypeId}{r fr:dd}{fs:Array Field}{fd:Field}{x:Operand}{a:Addr}{f:Nat}(hr:ev.ty ty=some r)(hu:r.bp=.struct fs)(hf:fs[f]?=some fd)(FR:ev.ty fd.type=some fr)(hz:Nat.beq fr.info.size 0=false)(hx:aL t x=some (.lit (.pointer (some a))))(h:K (.lit (.pointer (some (a.add fd.offset))))):cX ev Tryz.prog t H (.fieldAddr ty x f) K:=
 ⟨_,fun F γ w ac hR _ bJ o ho=>by
  have h1:=bJ x _ hx;rw[au] at h1;refine ⟨.pointer (some (a.add fd.offset)),?_,aS γ _⟩;obtain ⟨dst,op,type,pos,after,guard⟩:=o;simp only[] at ho;subst ho;have hz:=Nat.ne_of_beq_eq_false hz;simp only[execOp];refine dE ?_;rw[h1];unfold Instr.fieldAt fieldPlace;simp only[Sem.run_bind,bn aa hr w,Result.andThen_ok,hu,hf,Instr.sureAddr,Sem.run_pure,bY aa FR w,if_neg hz],h⟩
theorem E3:∃r,ev.ty 9=some r/\bQ r.bp=false:=⟨_,rfl,rfl⟩
theorem yC:∃r,ev.ty 3=some r/\bQ r.bp=false:=⟨_,rfl,rfl⟩
def Sf(L:List Tk)(p:Pr):Prop:=∃i,i<=L.length/\p.l=L.drop i
theorem Sf.at{L:List Tk}{p:Pr}(h:Sf L p):L.length - p.l.length<=L.length/\p.l=L.drop (L.length - p.l.length):=by
 obtain ⟨i,h1,h2⟩:=h;have:L.length - p.l.length=i:=by rw[h2,List.length_drop];omega
 rw[this];exact ⟨h1,h2⟩
theorem Sf.on{L:List Tk}{p:Pr}(h:Sf L p):Sf L p.on:=by
 obtain ⟨i,h1,h2⟩:=h;by_cases hi:i<L.length
 ·exact ⟨i+1,hi,by unfold Pr.on;rw[h2,List.tail_drop]⟩
 ·exact ⟨i,h1,by unfold Pr.on;rw[h2,List.drop_of_length_le (by omega)];rfl⟩
theorem Sf.ba{L:List Tk}{p:Pr}(h:Sf L p)(e:Nat×Nat):Sf L (p.ba e):=by
 unfold Pr.ba;split<;>exact h
theorem Sf.want{L:List Tk}{p:Pr}(h:Sf L p)(e:Nat×Nat)(s:List UInt8):Sf L (p.want e s):=by
 unfold Pr.want;split
 ·exact h.on
 ·exact h.ba e
theorem Sf.take{L:List Tk}{p:Pr}(h:Sf L p)(e:Nat×Nat)(k:Nat):Sf L (p.take e k).2:=by
 unfold Pr.take;split
 ·exact h.on
 ·exact h.ba e
theorem NY{a b:Nat}:((a:Int)==(b:Int))=decide (a=b):=by
 rw[Bool.eq_iff_iff,beq_iff_eq,decide_eq_true_iff];omega
theorem Sq{id nt k:Nat}{l:List Oper}{t:aE}{H:List ai}{Q:fR->aE->List ai->Prop}(n m:Nat)(hn:Nat.ble nt aY=true)(hm:Nat.beq l.length m=true)(hB:Region.lexTailB .any l.toArray n=true)
  (h:EB ev Tryz.prog nt l H (l.take n) t (fun t'=>Ev.wpOps ev Tryz.prog nt l (l.drop n) t' H (fun t H=>Q .normal t H))):Ev.aM Tryz.prog nt k (.region id l.toArray true) t H Q:=aM.tail aa n hn hB h
def dX(A:Option Addr)(m:Nat)(L:List Tk)(e:Nat×Nat)(p:Pr):ai:=.cells [.lit (.slice A L.length m),iA ((L.length - p.l.length:Nat):Int),iA e.1,iA e.2,iA (rT p.bad).1,iA (rT p.bad).2.1,iA (rT p.bad).2.2] GL
section
variable{R:aC}{A:Option Addr}{m:Nat}{L:List Tk}{e:Nat×Nat}{p:Pr}
theorem qis{s:List UInt8}(hT:iu R A L)(hs:Sf L p):CP [] 405 [.ptr 0 0,.lit (dw s)] [dX A m L e p,.res R] (fun v H'=>v=bA (p.is s)/\∃G,H'=dX A m L e p::.res R::G):=by
 obtain ⟨h1,h2⟩:=hs.at;obtain ⟨l,bad⟩:=p;cases bad with
 | some b=>
   show CP [] _ _ [.cells [.lit (.slice A L.length m),iA ((L.length - l.length:Nat):Int),iA e.1,iA e.2,iA 31,iA b.1,iA b.2] GL,.res R] _
   refine ag aa rfl ?_;repeat' ((conv=>whnf);first|with_reducible apply af<;>intro _|refine aM.drawn aa rfl rfl ?_|with_reducible refine And.intro (aN.mk ⟨_,rfl,rfl⟩) ?_ )
   all_goals (try conv=>whnf)
   all_goals exact ⟨rfl,_,rfl⟩
 | none=>
   simp only[] at h1 h2;obtain ⟨i,hi⟩:∃i,i=L.length - l.length:=⟨_,rfl⟩;have hP:dX A m L e ⟨l,none⟩=.cells [.lit (.slice A L.length m),iA (i:Nat),iA e.1,iA e.2,iA 0,iA 0,iA 0] GL:=by rw[hi];rfl
   rw[hP];rw[<-hi] at h1 h2;by_cases an:i<L.length
   ·obtain ⟨a,rfl,_⟩:=hT.rd.at an;have e1:(⟨l,none⟩:Pr).is s=decide (L[i].text=s):=by rw[h2,List.drop_eq_getElem_cons an];rfl
    rw[e1];refine ag aa rfl ?_;repeat' ((conv=>whnf);first|with_reducible apply af<;>intro _|refine aM.tail aa 33 rfl (by kernel_rfl) ?_|refine cX.bC aa rfl rfl rfl rfl rfl an ?_|refine cX.kN rfl rfl rfl rfl rfl rfl ?_|refine cX.aR (i:=1) (v:=.lit (dw L[i].text)) rfl (hT.one E3 an rfl) rfl rfl ?_|refine cX.pure aa rfl ?_|refine cX.read aa rfl ?_)
    all_goals (try conv=>whnf)
    all_goals first|exact ⟨congrArg bA (o9.symm.trans (by assumption)).symm,_,rfl⟩|(exfalso;rename_i hx;have:=dF1 hx;omega)
   ·have e1:(⟨l,none⟩:Pr).is s=false:=by rw[h2,List.drop_of_length_le (by omega)];rfl
    rw[e1];refine ag aa rfl ?_;repeat' ((conv=>whnf);first|with_reducible apply af<;>intro _|refine aM.drawn aa rfl rfl ?_|with_reducible refine And.intro (aN.mk ⟨_,rfl,rfl⟩) ?_|(exfalso;rename_i hx;have:=dT1 hx;omega))
    all_goals (try conv=>whnf)
    all_goals exact ⟨rfl,_,rfl⟩
theorem Rm{k:Nat}(hT:iu R A L)(hs:Sf L p):CP [] 476 [.ptr 0 0,iA k] [dX A m L e p,.res R] (fun v H'=>v=bA (p.kind k)/\∃G,H'=dX A m L e p::.res R::G):=by
 obtain ⟨h1,h2⟩:=hs.at;obtain ⟨l,bad⟩:=p;cases bad with
 | some b=>
   show CP [] _ _ [.cells [.lit (.slice A L.length m),iA ((L.length - l.length:Nat):Int),iA e.1,iA e.2,iA 31,iA b.1,iA b.2] GL,.res R] _
   refine ag aa rfl ?_;repeat' ((conv=>whnf);first|with_reducible apply af<;>intro _|refine aM.drawn aa rfl rfl ?_|with_reducible refine And.intro (aN.mk ⟨_,rfl,rfl⟩) ?_ )
   all_goals (try conv=>whnf)
   all_goals exact ⟨rfl,_,rfl⟩
 | none=>
   simp only[] at h1 h2;obtain ⟨i,hi⟩:∃i,i=L.length - l.length:=⟨_,rfl⟩;have hP:dX A m L e ⟨l,none⟩=.cells [.lit (.slice A L.length m),iA (i:Nat),iA e.1,iA e.2,iA 0,iA 0,iA 0] GL:=by rw[hi];rfl
   rw[hP];rw[<-hi] at h1 h2;by_cases an:i<L.length
   ·obtain ⟨a,rfl,_⟩:=hT.rd.at an;have e1:(⟨l,none⟩:Pr).kind k=decide (L[i].kind=k):=by rw[h2,List.drop_eq_getElem_cons an];rfl
    rw[e1];refine ag aa rfl ?_;repeat' ((conv=>whnf);first|with_reducible apply af<;>intro _|refine aM.tail aa 33 rfl (by kernel_rfl) ?_|refine cX.bC aa rfl rfl rfl rfl rfl an ?_|refine cX.kN rfl rfl rfl rfl rfl rfl ?_|refine cX.aR (i:=1) (v:=iA L[i].kind) rfl (hT.one (j:=0) yC an rfl) rfl rfl ?_|refine cX.pure aa rfl ?_|refine cX.read aa rfl ?_)
    all_goals (try conv=>whnf)
    all_goals first|exact ⟨congrArg bA (NY.symm.trans (by assumption)).symm,_,rfl⟩|(exfalso;rename_i hx;have:=dF1 hx;omega)
   ·have e1:(⟨l,none⟩:Pr).kind k=false:=by rw[h2,List.drop_of_length_le (by omega)];rfl
    rw[e1];refine ag aa rfl ?_;repeat' ((conv=>whnf);first|with_reducible apply af<;>intro _|refine aM.drawn aa rfl rfl ?_|with_reducible refine And.intro (aN.mk ⟨_,rfl,rfl⟩) ?_|(exfalso;rename_i hx;have:=dT1 hx;omega))
    all_goals (try conv=>whnf)
    all_goals exact ⟨rfl,_,rfl⟩
theorem jP{s:List UInt8}(h:p.is s=true):p.l≠[]:=fun hl=>by
 unfold Pr.is at h;rw[hl] at h;simp at h
theorem QA{k:Nat}(h:p.kind k=true):p.l≠[]:=fun hl=>by
 unfold Pr.kind at h;rw[hl] at h;simp at h
theorem My(hl:L.length<=1000000)(hs:Sf L p)(aP:p.l≠[]):ai.cells [.lit (.slice A L.length m),iA (IntKind.i64.wrap (((L.length - p.l.length:Nat):Int)+1)),iA e.1,iA e.2,iA (rT p.bad).1,iA (rT p.bad).2.1,iA (rT p.bad).2.2] GL=dX A m L e p.on:=by
 have h1:=hs.at.1;have h2:0<p.l.length:=List.length_pos_iff.2 aP;have h3:p.l.length<=L.length:=by
  obtain ⟨i,h4,h5⟩:=hs;rw[h5,List.length_drop];omega
 have h4:p.on.l.length=p.l.length - 1:=by unfold Pr.on;simp
 unfold dX;rw[h4,ak (by omega) (by omega)];have h5:(((L.length - p.l.length:Nat):Int)+1)=((L.length - (p.l.length - 1):Nat):Int):=by omega
 rw[h5];rfl
def Pr.fQ(s:List UInt8)(p:Pr):Pr:=if p.is s then p.on else p
theorem dU{s:List UInt8}(hT:iu R A L)(hs:Sf L p):CP [] 304 [.ptr 0 0,.lit (dw s)] [dX A m L e p,.res R] (fun v H'=>v=bA (p.is s)/\∃G,H'=dX A m L e (p.fQ s)::.res R::G):=by
 have hi:=qis (m:=m) (e:=e) (s:=s) hT hs;unfold Pr.fQ;cases hb:p.is s
 all_goals rw[hb] at hi
 ·refine ag aa rfl ?_;repeat' ((conv=>whnf);first|with_reducible apply af<;>intro _|(refine hi.use [0,1] rfl rfl ⟨⟨_,rfl,rfl⟩,ko,tU⟩ ?_;rintro _ _ ⟨rfl,G,rfl⟩;refine ⟨[],?_⟩))
  all_goals (try conv=>whnf)
  exact ⟨rfl,_,rfl⟩
 ·refine ag aa rfl ?_;repeat' ((conv=>whnf);first|with_reducible apply af<;>intro _|(refine hi.use [0,1] rfl rfl ⟨⟨_,rfl,rfl⟩,ko,tU⟩ ?_;rintro _ _ ⟨rfl,G,rfl⟩;refine ⟨[],?_⟩))
  all_goals (try conv=>whnf)
  exact ⟨rfl,_,congrArg (·::_) (My hT.len hs (jP hb))⟩
theorem nk(hT:iu R A L)(hs:Sf L p):CP [] 302 [.ptr 0 0] [dX A m L e p,.res R] (fun v H'=>v=.agg [iA (p.place e).1,iA (p.place e).2]/\∃G,H'=dX A m L e p::.res R::G):=by
 obtain ⟨h1,h2⟩:=hs.at;obtain ⟨l,bad⟩:=p;simp only[] at h1 h2;obtain ⟨i,hi⟩:∃i,i=L.length - l.length:=⟨_,rfl⟩;have hP:dX A m L e ⟨l,bad⟩=.cells [.lit (.slice A L.length m),iA (i:Nat),iA e.1,iA e.2,iA (rT bad).1,iA (rT bad).2.1,iA (rT bad).2.2] GL:=by rw[hi];rfl
 rw[hP];rw[<-hi] at h1 h2;by_cases an:i<L.length
 ·obtain ⟨a,rfl,_⟩:=hT.rd.at an;have e1:(⟨l,bad⟩:Pr).place e=(L[i].line,L[i].aX):=by rw[h2,List.drop_eq_getElem_cons an];rfl
  rw[e1];refine ag aa rfl ?_;repeat' ((conv=>whnf);first|with_reducible apply af<;>intro _|refine Sq 11 12 rfl rfl (by kernel_rfl) ?_|refine aM.drawn aa rfl rfl ?_|refine cX.bC aa rfl rfl rfl rfl rfl an ?_|refine cX.kN rfl rfl rfl rfl rfl rfl ?_|refine cX.aR (i:=1) (v:=.agg [iA L[i].line,iA L[i].aX]) rfl (hT.pos an) rfl rfl ?_|refine cX.pure aa rfl ?_|refine cX.read aa rfl ?_)
  all_goals (try conv=>whnf)
  all_goals first|exact ⟨rfl,_,rfl⟩|(exfalso;rename_i hx;have:=dF1 hx;omega)
 ·have e1:(⟨l,bad⟩:Pr).place e=e:=by rw[h2,List.drop_of_length_le (by omega)];rfl
  rw[e1];refine ag aa rfl ?_;repeat' ((conv=>whnf);first|with_reducible apply af<;>intro _|refine aM.drawn aa rfl rfl ?_|with_reducible refine And.intro (aN.mk ⟨_,rfl,rfl⟩) ?_|(exfalso;rename_i hx;have:=dT1 hx;omega))
  all_goals (try conv=>whnf)
  all_goals exact ⟨rfl,_,rfl⟩
theorem Gp(hT:iu R A L)(hs:Sf L p):CP [] 308 [.ptr 0 0] [dX A m L e p,.res R] (fun v H'=>v=aQ/\∃G,H'=dX A m L e (p.ba e)::.res R::G):=by
 have hp:=nk (m:=m) (e:=e) hT hs;obtain ⟨l,bad⟩:=p;cases bad with
 | some b=>
   show CP [] _ _ [.cells [.lit (.slice A L.length m),iA ((L.length - l.length:Nat):Int),iA e.1,iA e.2,iA 31,iA b.1,iA b.2] GL,.res R] _
   refine ag aa rfl ?_;repeat' ((conv=>whnf);with_reducible apply af<;>intro _)
   all_goals (try conv=>whnf)
   all_goals exact ⟨rfl,_,rfl⟩
 | none=>
   obtain ⟨q,hq⟩:∃q,q=(⟨l,none⟩:Pr).place e:=⟨_,rfl⟩;have e1:(⟨l,none⟩:Pr).ba e=⟨l,some q⟩:=by rw[hq];rfl
   rw[e1];rw[<-hq] at hp;refine ag aa rfl ?_;repeat' ((conv=>whnf);first|with_reducible apply af<;>intro _|(refine hp.use [0,1] rfl rfl ⟨⟨_,rfl,rfl⟩,ko,tU⟩ ?_;rintro _ _ ⟨rfl,G,rfl⟩;refine ⟨[],?_⟩))
   all_goals (try conv=>whnf)
   all_goals exact ⟨rfl,_,rfl⟩
theorem l9{s:List UInt8}(hT:iu R A L)(hs:Sf L p):CP [] 309 [.ptr 0 0,.lit (dw s)] [dX A m L e p,.res R] (fun v H'=>v=aQ/\∃G,H'=dX A m L e (p.want e s)::.res R::G):=by
 have hk:=dU (m:=m) (e:=e) (s:=s) hT hs;have hw:=Gp (m:=m) (e:=e) hT hs;unfold Pr.want;unfold Pr.fQ at hk;cases hb:p.is s
 all_goals rw[hb] at hk
 all_goals
  refine ag aa rfl ?_
  repeat' ((conv=>whnf);first|with_reducible apply af<;>intro _|(refine hk.use [0,1] rfl rfl ⟨⟨_,rfl,rfl⟩,ko,tU⟩ ?_;rintro _ _ ⟨rfl,G,rfl⟩;refine ⟨[],?_⟩)|(refine hw.use [0,1] rfl rfl ⟨⟨_,rfl,rfl⟩,ko,tU⟩ ?_;rintro _ _ ⟨rfl,G,rfl⟩;refine ⟨[],?_⟩))
  all_goals (try conv=>whnf)
  all_goals exact ⟨rfl,_,rfl⟩
theorem Rq{k:Nat}(hT:iu R A L)(hs:Sf L p):CP [] 477 [.ptr 0 0,iA k] [dX A m L e p,.res R] (fun v H'=>v=.agg (E8 (p.take e k).1)/\∃G,H'=dX A m L e (p.take e k).2::.res R::G):=by
 have hk:=Rm (m:=m) (e:=e) (k:=k) hT hs;have hw:=Gp (m:=m) (e:=e) hT hs;unfold Pr.take;cases hb:p.kind k
 all_goals rw[hb] at hk
 ·refine ag aa rfl ?_;repeat' ((conv=>whnf);first|with_reducible apply af<;>intro _|(refine hk.use [0,1] rfl rfl ⟨⟨_,rfl,rfl⟩,ko,tU⟩ ?_;rintro _ _ ⟨rfl,G,rfl⟩;refine ⟨[],?_⟩)|(refine hw.use [0,1] rfl rfl ⟨⟨_,rfl,rfl⟩,ko,tU⟩ ?_;rintro _ _ ⟨rfl,G,rfl⟩;refine ⟨[],?_⟩))
  all_goals (try conv=>whnf)
  all_goals exact ⟨rfl,_,rfl⟩
 ·have aP:=QA hb;obtain ⟨h1,h2⟩:=hs.at;obtain ⟨i,hi⟩:∃i,i=L.length - p.l.length:=⟨_,rfl⟩;have an:i<L.length:=by
   rcases Nat.lt_or_ge i L.length with h|h
   ·exact h
   ·rw[<-hi,List.drop_of_length_le h] at h2;exact absurd h2 aP
  obtain ⟨a,rfl,bu⟩:=hT.rd.at an;have e1:p.l.headD Tk.none=L[i]:=by rw[h2,<-hi,List.drop_eq_getElem_cons an];rfl
  have hl:=hT.len;have XN:IntKind.i64.wrap (IntKind.i64.wrap (((L.length - p.l.length:Nat):Int)+1) - 1)=(i:Int):=by rw[<-hi,ak (n:=(i:Int)+1) (by omega) (by omega),ak (by omega) (by omega)];omega
  simp only[if_true];rw[e1];refine ag aa rfl ?_;repeat' ((conv=>whnf);first|with_reducible apply af<;>intro _|(refine hk.use [0,1] rfl rfl ⟨⟨_,rfl,rfl⟩,ko,tU⟩ ?_;rintro _ _ ⟨rfl,G,rfl⟩;refine ⟨[],?_⟩)|refine Sq 11 12 rfl rfl (by kernel_rfl) ?_|(rw[XN];refine cX.bC aa rfl rfl rfl rfl rfl an ?_)|refine cX.aR (i:=1) (v:=.agg (E8 L[i])) rfl (fun w S hR=>bu w S hR i an) rfl rfl ?_|refine cX.pure aa rfl ?_|refine cX.read aa rfl ?_)
  all_goals (try conv=>whnf)
  exact ⟨rfl,_,congrArg (·::_) (My hT.len hs aP)⟩
theorem Gn(hT:iu R A L)(hs:Sf L p):CP [] 406 [.ptr 0 0] [dX A m L e p,.res R] (fun v H'=>v=.lit (dw (gN e p).1)/\∃G,H'=dX A m L e (gN e p).2::.res R::G):=by
 have h1:=Rq (m:=m) (e:=e) (k:=1) hT hs;unfold gN;obtain ⟨q,hq⟩:∃q,q=p.take e 1:=⟨_,rfl⟩;rw[<-hq] at h1 ⊢;refine ag aa rfl ?_;repeat' ((conv=>whnf);first|with_reducible apply af<;>intro _|(refine h1.use [0,1] rfl rfl ⟨⟨_,rfl,rfl⟩,ko,tU⟩ ?_;rintro _ _ ⟨rfl,G,rfl⟩;refine ⟨[],?_⟩))
 all_goals (try conv=>whnf)
 all_goals exact ⟨rfl,_,rfl⟩
theorem xD(hT:iu R A L)(hs:Sf L p):CP [] 404 [.ptr 0 0] [dX A m L e p,.res R] (fun v H'=>v=iA (fW e p).1/\∃G,H'=dX A m L e (fW e p).2::.res R::G):=by
 have h1:=Rq (m:=m) (e:=e) (k:=3) hT hs;unfold fW;obtain ⟨q,hq⟩:∃q,q=p.take e 3:=⟨_,rfl⟩;rw[<-hq] at h1 ⊢;refine ag aa rfl ?_;repeat' ((conv=>whnf);first|with_reducible apply af<;>intro _|(refine h1.use [0,1] rfl rfl ⟨⟨_,rfl,rfl⟩,ko,tU⟩ ?_;rintro _ _ ⟨rfl,G,rfl⟩;refine ⟨[],?_⟩))
 all_goals (try conv=>whnf)
 all_goals exact ⟨rfl,_,rfl⟩
theorem Sf.name(h:Sf L p)(e:Nat×Nat):Sf L (gN e p).2:=h.take e 1
theorem Sf.num(h:Sf L p)(e:Nat×Nat):Sf L (fW e p).2:=h.take e 3
theorem Sf.Yv(h:Sf L p)(e:Nat×Nat):Sf L (iT e p).2:=by
 unfold iT;simp only[];repeat' split
 ·exact h.on
 ·exact h.name e
 ·exact h.num e
theorem Sf.where(h:Sf L p)(e:Nat×Nat):Sf L (gJ e p).2:=by
 unfold gJ;simp only[];split
 ·exact h.on
 ·exact h.name e
theorem Sf.St(h:Sf L p)(e:Nat×Nat):Sf L (gI e p).2.2:=by
 unfold gI;simp only[];repeat' split
 ·exact h.on
 ·exact (h.num e).on.num e
 ·exact h.num e
theorem Sf.box(h:Sf L p)(e:Nat×Nat):Sf L (hZ e p).2:=(((h.num e).num e).num e).num e
theorem VM(hT:iu R A L)(hs:Sf L p):CP [] 402 [.ptr 0 0] [dX A m L e p,.res R] (fun v H'=>v=.agg (wA (iT e p).1)/\∃G,H'=dX A m L e (iT e p).2::.res R::G):=by
 have h1:=nk (m:=m) (e:=e) hT hs;have h2:=dU (m:=m) (e:=e) (s:=o7) hT hs;have h3:=Rm (m:=m) (e:=e) (k:=1) hT hs;have h4:=Gn (m:=m) (e:=e) hT hs;have h5:=xD (m:=m) (e:=e) hT hs;unfold iT;unfold Pr.fQ at h2;obtain ⟨y,hy⟩:∃y,y=p.place e:=⟨_,rfl⟩;obtain ⟨a,ha⟩:∃a,a=gN e p:=⟨_,rfl⟩;obtain ⟨b,hb⟩:∃b,b=fW e p:=⟨_,rfl⟩;obtain ⟨x,hx⟩:∃x,x=p.is o7:=⟨_,rfl⟩;obtain ⟨k,hk⟩:∃k,k=p.kind 1:=⟨_,rfl⟩;obtain ⟨p',hp⟩:∃p',p'=p.on:=⟨_,rfl⟩;rw[<-hy] at h1 ⊢;rw[<-ha] at h4 ⊢;rw[<-hb] at h5 ⊢;rw[<-hx,<-hp] at h2 ⊢;rw[<-hk] at h3 ⊢;clear hx hk;cases x<;>cases k
 all_goals
  refine ag aa rfl ?_
  repeat' ((conv=>whnf);first|with_reducible apply af<;>intro _|(refine h1.use [0,1] rfl rfl ⟨⟨_,rfl,rfl⟩,ko,tU⟩ ?_;rintro _ _ ⟨rfl,G,rfl⟩;refine ⟨[],?_⟩)|(refine h2.use [0,1] rfl rfl ⟨⟨_,rfl,rfl⟩,ko,tU⟩ ?_;rintro _ _ ⟨rfl,G,rfl⟩;refine ⟨[],?_⟩)|(refine h3.use [0,1] rfl rfl ⟨⟨_,rfl,rfl⟩,ko,tU⟩ ?_;rintro _ _ ⟨rfl,G,rfl⟩;refine ⟨[],?_⟩)|(refine h4.use [0,1] rfl rfl ⟨⟨_,rfl,rfl⟩,ko,tU⟩ ?_;rintro _ _ ⟨rfl,G,rfl⟩;refine ⟨[],?_⟩)|(refine h5.use [0,1] rfl rfl ⟨⟨_,rfl,rfl⟩,ko,tU⟩ ?_;rintro _ _ ⟨rfl,G,rfl⟩;refine ⟨[],?_⟩))
  all_goals (try conv=>whnf)
  all_goals exact ⟨rfl,_,rfl⟩
theorem Ui(hT:iu R A L)(hs:Sf L p):CP [] 403 [.ptr 0 0] [dX A m L e p,.res R] (fun v H'=>v=.agg (wA (gJ e p).1)/\∃G,H'=dX A m L e (gJ e p).2::.res R::G):=by
 have h1:=nk (m:=m) (e:=e) hT hs;have h2:=dU (m:=m) (e:=e) (s:=C4) hT hs;have h4:=Gn (m:=m) (e:=e) hT hs;unfold gJ;unfold Pr.fQ at h2;obtain ⟨y,hy⟩:∃y,y=p.place e:=⟨_,rfl⟩;obtain ⟨a,ha⟩:∃a,a=gN e p:=⟨_,rfl⟩;obtain ⟨x,hx⟩:∃x,x=p.is C4:=⟨_,rfl⟩;obtain ⟨p',hp⟩:∃p',p'=p.on:=⟨_,rfl⟩;rw[<-hy] at h1 ⊢;rw[<-ha] at h4 ⊢;rw[<-hx,<-hp] at h2 ⊢;clear hx;cases x
 all_goals
  refine ag aa rfl ?_
  repeat' ((conv=>whnf);first|with_reducible apply af<;>intro _|(refine h1.use [0,1] rfl rfl ⟨⟨_,rfl,rfl⟩,ko,tU⟩ ?_;rintro _ _ ⟨rfl,G,rfl⟩;refine ⟨[],?_⟩)|(refine h2.use [0,1] rfl rfl ⟨⟨_,rfl,rfl⟩,ko,tU⟩ ?_;rintro _ _ ⟨rfl,G,rfl⟩;refine ⟨[],?_⟩)|(refine h4.use [0,1] rfl rfl ⟨⟨_,rfl,rfl⟩,ko,tU⟩ ?_;rintro _ _ ⟨rfl,G,rfl⟩;refine ⟨[],?_⟩))
  all_goals (try conv=>whnf)
  all_goals exact ⟨rfl,_,rfl⟩
theorem Uh(hT:iu R A L)(hs:Sf L p):CP [] 401 [.ptr 0 0] [dX A m L e p,.res R] (fun v H'=>v=.tuple [iA (gI e p).1,iA (gI e p).2.1]/\∃G,H'=dX A m L e (gI e p).2.2::.res R::G):=by
 have h1:=dU (m:=m) (e:=e) (s:=o7) hT hs;have h2:=xD (m:=m) (e:=e) hT hs;have h3:=dU (m:=m) (e:=e) (s:=y6) hT (hs.num e);have h4:=xD (m:=m) (e:=e) hT (hs.num e).on;unfold gI;simp only[];unfold Pr.fQ at h1 h3;obtain ⟨a,ha⟩:∃a,a=fW e p:=⟨_,rfl⟩;rw[<-ha] at h2 h3 h4 ⊢;obtain ⟨b,hb⟩:∃b,b=fW e a.2.on:=⟨_,rfl⟩;obtain ⟨x,hx⟩:∃x,x=p.is o7:=⟨_,rfl⟩;obtain ⟨y,hy⟩:∃y,y=a.2.is y6:=⟨_,rfl⟩;obtain ⟨p',hp⟩:∃p',p'=p.on:=⟨_,rfl⟩;obtain ⟨p2,Tv⟩:∃p2,p2=a.2.on:=⟨_,rfl⟩;rw[<-Tv] at hb h3 h4 ⊢;rw[<-hb] at h4 ⊢;rw[<-hx,<-hp] at h1 ⊢;rw[<-hy] at h3 ⊢;clear hx hy;cases x<;>cases y
 all_goals
  refine ag aa rfl ?_
  repeat' ((conv=>whnf);first|with_reducible apply af<;>intro _|(refine h1.use [0,1] rfl rfl ⟨⟨_,rfl,rfl⟩,ko,tU⟩ ?_;rintro _ _ ⟨rfl,G,rfl⟩;refine ⟨[],?_⟩)|(refine h2.use [0,1] rfl rfl ⟨⟨_,rfl,rfl⟩,ko,tU⟩ ?_;rintro _ _ ⟨rfl,G,rfl⟩;refine ⟨[],?_⟩)|(refine h3.use [0,1] rfl rfl ⟨⟨_,rfl,rfl⟩,ko,tU⟩ ?_;rintro _ _ ⟨rfl,G,rfl⟩;refine ⟨[],?_⟩)|(refine h4.use [0,1] rfl rfl ⟨⟨_,rfl,rfl⟩,ko,tU⟩ ?_;rintro _ _ ⟨rfl,G,rfl⟩;refine ⟨[],?_⟩))
  all_goals (try conv=>whnf)
  all_goals exact ⟨rfl,_,rfl⟩
theorem VL(hT:iu R A L)(hs:Sf L p):CP [] 478 [.ptr 0 0] [dX A m L e p,.res R] (fun v H'=>v=.agg ((iy (hZ e p).1).map .lit)/\∃G,H'=dX A m L e (hZ e p).2::.res R::G):=by
 have h1:=xD (m:=m) (e:=e) hT hs;have h2:=xD (m:=m) (e:=e) hT (hs.num e);have h3:=xD (m:=m) (e:=e) hT ((hs.num e).num e);have h4:=xD (m:=m) (e:=e) hT (((hs.num e).num e).num e);unfold hZ;simp only[];obtain ⟨a,ha⟩:∃a,a=fW e p:=⟨_,rfl⟩;rw[<-ha] at h1 h2 h3 h4 ⊢;obtain ⟨b,hb⟩:∃b,b=fW e a.2:=⟨_,rfl⟩;rw[<-hb] at h2 h3 h4 ⊢;obtain ⟨c,hc⟩:∃c,c=fW e b.2:=⟨_,rfl⟩;rw[<-hc] at h3 h4 ⊢;obtain ⟨d,hd⟩:∃d,d=fW e c.2:=⟨_,rfl⟩;rw[<-hd] at h4 ⊢;clear ha hb hc hd;refine ag aa rfl ?_;conv=>whnf
 refine aV aa rfl (fun i:Nat=>[(0,.ptr 0 0),(2,.ptr 2 0),(3,.ptr 3 0),(5,iA (i:Nat))]) (fun i=>match i with
   | 0=>[dX A m L e p,.res R,.cells [iA 0,iA 0,iA 0,iA 0] oA,.cells [iA 0,iA 0,iA 0,iA 0] 424]
   | 1=>[dX A m L e a.2,.res R,.cells [iA 0,iA 0,iA 0,iA 0] oA,.cells [iA a.1,iA 0,iA 0,iA 0] 424]
   | 2=>[dX A m L e b.2,.res R,.cells [iA 0,iA 0,iA 0,iA 0] oA,.cells [iA a.1,iA b.1,iA 0,iA 0] 424]
   | 3=>[dX A m L e c.2,.res R,.cells [iA 0,iA 0,iA 0,iA 0] oA,.cells [iA a.1,iA b.1,iA c.1,iA 0] 424]
   | _=>[dX A m L e d.2,.res R,.cells [iA 0,iA 0,iA 0,iA 0] oA,.cells [iA a.1,iA b.1,iA c.1,iA d.1] 424])
  (fun i=>i<=4) (fun i=>4 - i) 0 (Nat.zero_le _) [0,1,2,3] ?_ ?_
 ·exact ⟨rfl,⟨rr,rr,rr,rr,tU⟩,⟨⟨_,rfl,rfl⟩,ko,⟨_,rfl,rfl⟩,⟨_,rfl,rfl⟩,tU⟩⟩
 ·intro i hi;match i,hi with
  | 4,_=>
    repeat' ((conv=>whnf);first|with_reducible apply af<;>intro _|refine aO.of (k:=0) rfl (by omega) ?_|refine aO.of (k:=1) rfl (by omega) ?_|refine aO.of (k:=2) rfl (by omega) ?_|refine aO.of (k:=3) rfl (by omega) ?_)
    all_goals (try conv=>whnf)
    exact ⟨rfl,_,rfl⟩
  | 0,_|1,_|2,_|3,_=>
    repeat' ((conv=>whnf);first|with_reducible apply af<;>intro _|refine aO.of (k:=0) rfl (by omega) ?_|refine aO.of (k:=1) rfl (by omega) ?_|refine aO.of (k:=2) rfl (by omega) ?_|refine aO.of (k:=3) rfl (by omega) ?_|(refine h1.use [0,1] rfl rfl ⟨⟨_,rfl,rfl⟩,ko,tU⟩ ?_;rintro _ _ ⟨rfl,G,rfl⟩;refine ⟨[],?_⟩)|(refine h2.use [0,1] rfl rfl ⟨⟨_,rfl,rfl⟩,ko,tU⟩ ?_;rintro _ _ ⟨rfl,G,rfl⟩;refine ⟨[],?_⟩)|(refine h3.use [0,1] rfl rfl ⟨⟨_,rfl,rfl⟩,ko,tU⟩ ?_;rintro _ _ ⟨rfl,G,rfl⟩;refine ⟨[],?_⟩)|(refine h4.use [0,1] rfl rfl ⟨⟨_,rfl,rfl⟩,ko,tU⟩ ?_;rintro _ _ ⟨rfl,G,rfl⟩;refine ⟨[],?_⟩))
    all_goals (try conv=>whnf)
    first
     | exact ⟨1,[0,1,2,3],⟨by decide,by decide⟩,rfl,⟨rr,rr,rr,rr,tU⟩,⟨⟨_,rfl,rfl⟩,ko,⟨_,rfl,rfl⟩,⟨_,rfl,rfl⟩,tU⟩⟩
     | exact ⟨2,[0,1,2,3],⟨by decide,by decide⟩,rfl,⟨rr,rr,rr,rr,tU⟩,⟨⟨_,rfl,rfl⟩,ko,⟨_,rfl,rfl⟩,⟨_,rfl,rfl⟩,tU⟩⟩
     | exact ⟨3,[0,1,2,3],⟨by decide,by decide⟩,rfl,⟨rr,rr,rr,rr,tU⟩,⟨⟨_,rfl,rfl⟩,ko,⟨_,rfl,rfl⟩,⟨_,rfl,rfl⟩,tU⟩⟩
     | exact ⟨4,[0,1,2,3],⟨by decide,by decide⟩,rfl,⟨rr,rr,rr,rr,tU⟩,⟨⟨_,rfl,rfl⟩,ko,⟨_,rfl,rfl⟩,⟨_,rfl,rfl⟩,tU⟩⟩
theorem dx.full{E:Env}{P:Program}{m:Bool}{S:List Nat}{t:aE}{cl:Call}{ty elem size:Nat}{H:List ai}{K:AV->List ai->Prop}(hA:iO E ty elem size){o len ox:Nat}{c:pe}{l:List AV}{e:TypeId}{xs ys:List Value}{ob:ai}(fy:Nat.blt H.length aY=true)(ho:H[o]?=some ob)(tu:vw ob=.cells (xs.map .lit) elem)(hx:H[ox]?=some (.cells l e))(hl:nQ l=some ys)(hn:Nat.beq l.length size=true)(h1:l.all AV.one=true)
  (gV:xs.length=len * size) (hlen:len+1<=2147483648)
  (k:p6 H (.row (xs++ys) elem) fun H'=>oX (qT H 0) fun n=>K (.slice n 0 (len+1) (.grown size)) H'):dx E P m S t cl ty (.slice o 0 len (.k len)) (.slice ox 0 1 c) H K:=by
 obtain ⟨r,hr,hu⟩:=hA.ty;obtain ⟨er,z,he,hs,hz,hc,hb⟩:=hA.el;have an:=gZ fy;have si:=(lE1.1 ho).1;rw[lF,jh,lQ,Nat.zero_add] at k;refine ⟨.inl ⟨.slice H.length 0 (len+(0+1)) (.grown size),{ heap:=(hp H).heap.put H.length (.cells (xs.map .lit++l) elem),next:=H.length+1 },_,?_,?_,?_,qd (ob:=.row (xs++ys) elem) rfl,k⟩⟩
 ·have hf:=vp (size:=size) (c:=c) (Nat.le_of_lt an) hx hn;have e1:jy (hp H) size len (.slice o 0 len (.k len))=some (xs.map .lit):=by
   cases len with
   | zero=>
     have:xs=[]:=List.eq_nil_of_length_eq_zero (by omega);subst this;rfl
   | succ len=>
     simp only[jy];rw[aZ (Nat.le_of_lt an),ho];simp only[Option.map_some,tu,Nat.zero_add,List.drop_zero,List.length_map];rw[show Nat.ble ((len+1) * size) xs.length=true from Nat.ble_eq_true_of_le (by omega),show Nat.ble (len+1) (len+1)=true from Nat.ble_eq_true_of_le (Nat.le_refl _)];simp only[Bool.and_self];rw[List.take_of_length_le (by simp;omega)]
  simp only[nw,hr,hu,he,iZ,hs,hf,e1,hz];simp only[BD,Bool.not_false,Bool.and_true];rw[show Nat.ble ((len+(0+1)) * er.info.bytes) 140737488355328=true from Nat.ble_eq_true_of_le (Nat.le_trans (Nat.mul_le_mul (Nat.le_trans (by omega) hlen) hb) (by decide)),show Nat.ble (len+(0+1)) 4611686018427387904=true from Nat.ble_eq_true_of_le (by omega),show Nat.ble er.info.bytes 65536=true from Nat.ble_eq_true_of_le hb,show Nat.blt (hp H).next aY=true from fy,hc,h1];rw[show Nat.beq size size=true from Nat.beq_refl _,show Nat.beq (xs.map AV.lit).length (len * size)=true by rw[List.length_map,gV];exact Nat.beq_refl _,show Nat.beq l.length ((0+1) * size)=true by rw[Nat.zero_add,Nat.one_mul];exact hn];have Tt:Nat.ble (len+(0+1)) len=false:=by
   rw[Bool.eq_false_iff];intro h;have:=nB1 h;omega
  simp only[Bool.and_self,Tt];rfl
 ·refine ⟨by simp,fun q=>?_⟩;simp only[];rw[T.bN _ _ _ _ (Nat.le_of_lt an),aZ (Nat.le_of_lt an)];by_cases e:q=H.length
  ·subst e;rw[if_pos rfl];simp[vw,oD hl]
  ·rw[if_neg e];rcases Nat.lt_or_ge q H.length with h5|h5
   ·rw[List.getElem?_append_left h5]
   ·rw[List.getElem?_eq_none h5,List.getElem?_eq_none (by simp;omega)]
 ·simp[rf]
theorem uy(e:Nat×Nat):∀(k j:Nat) (p:Pr) (out:List Bx),p.l.length<=k->p.l.length<=j->fT e k p out=fT e j p out:=by
 have h0:∀(j:Nat) (p:Pr) (out:List Bx),p.is [43]=false->fT e j p out=(out,p):=fun j p out h=>by
  cases j
  ·rfl
  ·unfold fT;rw[h];rfl
 have hn:∀p:Pr,p.l.length<=0->p.is [43]=false:=fun p h=>by
  cases hb:p.is [43] with
  | false=>rfl
  | true=>exact absurd (List.eq_nil_of_length_eq_zero (by omega)) (jP hb)
 intro k;induction k with
 | zero=>intro j p out h _;rw[h0 _ _ _ (hn p h),h0 _ _ _ (hn p h)]
 | succ k ih=>
   intro j p out h1 h2;cases hb:p.is [43] with
   | false=>rw[h0 _ _ _ hb,h0 _ _ _ hb]
   | true=>
     have aP:0<p.l.length:=List.length_pos_iff.2 (jP hb);have h3:=qR e p.on;have h4:p.on.l.length=p.l.length - 1:=by unfold Pr.on;simp
     cases j with
     | zero=>omega
     | succ j=>
       unfold fT;rw[hb];exact ih j _ _ (by omega) (by omega)
theorem Cg(e:Nat×Nat){p:Pr}{out:List Bx}(hb:p.is [43]=true):fT e p.l.length p out=fT e (hZ e p.on).2.l.length (hZ e p.on).2 (out++[(hZ e p.on).1])/\(hZ e p.on).2.l.length<p.l.length:=by
 have aP:0<p.l.length:=List.length_pos_iff.2 (jP hb);have h3:=qR e p.on;have h4:p.on.l.length=p.l.length - 1:=by unfold Pr.on;simp
 refine ⟨?_,by omega⟩;rw[uy e p.l.length (p.l.length - 1+1) p out (Nat.le_refl _) (by omega)];rw[fT,hb];exact uy e _ _ _ _ (by omega) (Nat.le_refl _)
theorem Ch(e:Nat×Nat){p:Pr}{out:List Bx}(hb:p.is [43]=false)(k:Nat):fT e k p out=(out,p):=by
 cases k
 ·rfl
 ·unfold fT;rw[hb];rfl
theorem Sf.le(h:Sf L p):p.l.length<=L.length:=by
 obtain ⟨i,h4,h5⟩:=h;rw[h5,List.length_drop];omega
def L1:Option (List Bx)->Bx->ai
 | none,b=>.cells ((iy b).map .lit) oA
 | some l,b=>.row ((b::l).flatMap iy) oA
def Pf:Option (List Bx)->AV
 | none=>.slice 2 0 1 (.k 1)
 | some l=>.slice 2 0 (l.length+1) (.grown 4)
def uU:Option (List Bx)->Bx->List Bx
 | none,b=>[b]
 | some l,b=>b::l
theorem Rj(hT:iu R A L)(hs:Sf L p):CP [] 407 [.ptr 0 0] [dX A m L e p,.res R] (fun v H'=>∃o b,v=Pf o/\uU o b=(bF e p).1/\∃G,H'=dX A m L e (bF e p).2::.res R::L1 o b::G):=by
 have h1:=VL (m:=m) (e:=e) hT hs;have mN:=hs.box e;have hL:=hT.len;have hle:=qR e p;unfold bF;obtain ⟨⟨b,p1⟩,hq⟩:∃q,q=hZ e p:=⟨_,rfl⟩;rw[<-hq] at h1 mN hle ⊢;clear hq;simp only[] at h1 mN hle ⊢;obtain ⟨r,hr⟩:∃r,r=fT e p.l.length p1 [b]:=⟨_,rfl⟩;rw[<-hr];rw[uy e _ _ _ _ hle (Nat.le_refl _)] at hr;refine ag aa rfl ?_;repeat' ((conv=>whnf);first|with_reducible apply af<;>intro _|(refine h1.use [0,1] rfl rfl ⟨⟨_,rfl,rfl⟩,ko,tU⟩ ?_;rintro _ _ ⟨rfl,G,rfl⟩;refine ⟨[],?_⟩))
 refine aV aa rfl (fun s:Option (List Bx)×Pr=>[(0,.ptr 0 0),(3,Pf s.1)]) (fun s=>[dX A m L e s.2,.res R,L1 s.1 b])
  (fun s=>Sf L s.2/\r=fT e s.2.l.length s.2 (uU s.1 b)/\(uU s.1 b).length+s.2.l.length<=1000001) (fun s=>s.2.l.length) (none,p1) ⟨mN,hr,by have:=mN.le;show 1+p1.l.length<=1000001;omega⟩ [0,1,2] ?_ ?_
 ·exact ⟨rfl,⟨rr,rr,tU⟩,⟨⟨_,rfl,rfl⟩,ko,⟨_,rfl,rfl⟩,tU⟩⟩
 ·rintro ⟨o,p2⟩ ⟨oU,kH,hJ⟩;simp only[] at oU kH hJ ⊢;have h2:=dU (m:=m) (e:=e) (s:=[43]) hT oU;unfold Pr.fQ at h2;cases hb:p2.is [43] with
  | false=>
    rw[Ch e hb] at kH;rw[hb] at h2;subst kH;simp only[Bool.false_eq_true,if_false] at h2;rcases o with _|l;all_goals
     conv=>whnf
     repeat' ((conv=>whnf);first|with_reducible apply af<;>intro _|(refine h2.use [0,1] rfl rfl ⟨⟨_,rfl,rfl⟩,ko,tU⟩ ?_;rintro _ _ ⟨rfl,G,rfl⟩;refine ⟨[],?_⟩))
     all_goals (try conv=>whnf)
    ·exact ⟨none,b,rfl,rfl,_,rfl⟩
    ·exact ⟨some l,b,rfl,rfl,_,rfl⟩
  | true=>
    obtain ⟨qo,an⟩:=Cg e (out:=uU o b) hb;have h3:=VL (m:=m) (e:=e) hT oU.on;have Ty:=oU.on.box e;rw[hb] at h2;rw[qo] at kH;clear qo;obtain ⟨⟨x,p3⟩,hq⟩:∃q,q=hZ e p2.on:=⟨_,rfl⟩;obtain ⟨p4,ZZ⟩:∃p4,p4=p2.on:=⟨_,rfl⟩;rw[<-hq] at h3 Ty kH an;rw[<-ZZ] at h2 h3;clear hq ZZ hb;simp only[if_true] at h2;simp only[] at h3 Ty kH an;cases o with
    | none=>
      conv=>whnf
      repeat' ((conv=>whnf);first|with_reducible apply af<;>intro _|(refine h2.use [0,1] rfl rfl ⟨⟨_,rfl,rfl⟩,ko,tU⟩ ?_;rintro _ _ ⟨rfl,G,rfl⟩;refine ⟨[],?_⟩)|(refine h3.use [0,1] rfl rfl ⟨⟨_,rfl,rfl⟩,ko,tU⟩ ?_;rintro _ _ ⟨rfl,G,rfl⟩;refine ⟨[],?_⟩)|refine dx.full (xs:=iy b) nj rfl rfl rfl rfl rfl rfl rfl rfl (by decide) ?_)
      all_goals (try conv=>whnf)
      exact ⟨(some [x],p3),[0,1,4],⟨⟨Ty,kH,by simp[uU] at hJ ⊢;omega⟩,an⟩,rfl,⟨rr,rr,tU⟩,⟨⟨_,rfl,rfl⟩,ko,⟨_,rfl,rfl⟩,tU⟩⟩
    | some l=>
      have hl3:l.length+1+p2.l.length<=1000001:=by simpa [uU] using hJ
      conv=>whnf
      repeat' ((conv=>whnf);first|with_reducible apply af<;>intro _|(refine h2.use [0,1] rfl rfl ⟨⟨_,rfl,rfl⟩,ko,tU⟩ ?_;rintro _ _ ⟨rfl,G,rfl⟩;refine ⟨[],?_⟩)|(refine h3.use [0,1] rfl rfl ⟨⟨_,rfl,rfl⟩,ko,tU⟩ ?_;rintro _ _ ⟨rfl,G,rfl⟩;refine ⟨[],?_⟩)|refine dx.own nj rfl rfl rfl rfl rfl rfl (by rw[eC qb];rfl) (by omega) ?_)
      all_goals (try conv=>whnf)
      exact ⟨(some (l++[x]),p3),[0,1,4],⟨⟨Ty,kH,by simp[uU] at hJ ⊢;omega⟩,an⟩,rfl,⟨rr,⟨rfl,by simp[Pf];rfl⟩,tU⟩,⟨⟨_,rfl,rfl⟩,ko,⟨_,rfl,by simp[L1];rfl⟩,tU⟩⟩
def YQ:Option (List Bx)->AV
 | none=>.slice 3 0 1 (.k 1)
 | some l=>.slice 3 0 (l.length+1) (.grown 4)
theorem Rk{pl:List (Value×List Bx)}(hT:iu R A L)(hs:Sf L p):CP [] 407 [.ptr 0 0] [dX A m L e p,.res R,.res (aF pl)] (fun v H'=>∃o b,v=YQ o/\uU o b=(bF e p).1/\H'=[dX A m L e (bF e p).2,.res R,.res (aF pl),L1 o b]):=by
 refine (Rj (m:=m) (e:=e) hT hs).use [0,1] rfl rfl ⟨⟨_,rfl,rfl⟩,ko,tU⟩ ?_;rintro _ _ ⟨o,b,rfl,hl,G,rfl⟩;refine ⟨[2],?_⟩;rcases o with _|l;all_goals (conv=>whnf)
 ·exact ⟨none,b,rfl,hl,rfl⟩
 ·exact ⟨some l,b,rfl,hl,rfl⟩
theorem TZ{pl:List (Value×List Bx)}(hT:iu R A L)(hs:Sf L p):CP [] 407 [.ptr 0 0] [dX A m L e p,.res R,.res (aF pl)] (fun v H'=>∃a k,a.spot=none/\v=.lit (.slice (some a) (bF e p).1.length k)/\(bF e p).1≠[]/\∃G,H'=dX A m L e (bF e p).2::.res R::.res (aF (pl++[(.slice (some a) (bF e p).1.length k,(bF e p).1)]))::G):=by
 refine aj.post (K:=fun v H'=>∃b off k,v=.lit (.slice (some ⟨b,off,none⟩) (bF e p).1.length k)/\(bF e p).1≠[]/\H'=[dX A m L e (bF e p).2,.res R,.res (aF pl),.res (iP ⟨b,off,none⟩ ((bF e p).1.flatMap iy))]) (aj.VI (Rk (pl:=pl) hT hs) ?_) ?_
 ·rintro _ _ ⟨o,b,rfl,hl,rfl⟩;rw[<-hl];rcases o with _|l
  ·exact .inr ⟨3,1,.k 1,iy b,oA,rfl,by omega,.inr rfl,fun c off k=>⟨c,off,k,rfl,by simp[uU],rfl⟩⟩
  ·exact .inr ⟨3,l.length+1,.grown 4,(b::l).flatMap iy,oA,rfl,by omega,.inl rfl,fun c off k=>⟨c,off,k,rfl,by simp[uU],rfl⟩⟩
 ·rintro _ _ ⟨b,off,k,rfl,aP,rfl⟩;refine ⟨[dX A m L e (bF e p).2,.res R,.res (aF (pl++[(.slice (some ⟨b,off,none⟩) (bF e p).1.length k,(bF e p).1)])),.res aB],eg.same rfl ?_,_,k,rfl,rfl,aP,_,rfl⟩;exact (bj.merge (i:=2) (j:=3) rfl rfl rfl (vH aP)).trans (.of_eq rfl)
end
