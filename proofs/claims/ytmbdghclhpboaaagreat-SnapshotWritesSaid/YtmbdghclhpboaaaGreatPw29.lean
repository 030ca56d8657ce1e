/- Part of the proof: Ppr. Conditions: as each states. -/
import Derived.Test.YtmbdghclhpboaaaGreatPw28
set_option linter.all false
set_option maxRecDepth 100000
namespace Go.Proofs.YtmbdghclhpboaaaGreat
open Ev
theorem DS{α:Type}{enc:α->List Value}{k:Nat}{e:TypeId}{base:Nat}{w0 w:World}{S:Nat->Prop}{v:Value}{l:List α}(h:Own enc k e w0 base v l)(hw:(kq base w0).at_ w S):Own enc k e w base v l:=
 h.lP fun b hb=>hw.2 b (h.lt b hb).1 (h.lt b hb).2
theorem Qv:∃r,ev.ty 175=some r/\r.info.size=24/\bG r.bg=true:=⟨_,rfl,rfl,rfl⟩
theorem Kt:∃r,ev.ty nA=some r/\r.info.size=4/\bG r.bg=true:=⟨_,rfl,rfl,rfl⟩
abbrev Fu:TypeId:=317
theorem g9.jW{t:ax}{H:List af}{K:AV->Prop}{ty:TypeId}{r fr:cZ}{fs:Array Field}{fd:Field}{x:Operand}{a:Addr}{f:Nat}(hr:ev.ty ty=some r)(hu:r.bg=.struct fs)(hf:fs[f]?=some fd)(EI:ev.ty fd.type=some fr)(hz:Nat.beq fr.info.size 0=false)(hx:aE t x=some (.lit (.pointer (some a))))(h:K (.lit (.pointer (some (a.add fd.offset))))):g9 ev Tryz.prog t H (.fieldAddr ty x f) K:=
 ⟨_,fun F γ w ac hR _ bD o ho=>by
  have h1:=bD x _ hx;rw[al] at h1;refine ⟨.pointer (some (a.add fd.offset)),?_,aM γ _⟩;obtain ⟨dst,op,type,pos,after,guard⟩:=o;simp only[] at ho;subst ho;have hz:=Nat.ne_of_beq_eq_false hz;simp only[execOp];refine dh ?_;rw[h1];unfold Instr.fieldAt fieldPlace;simp only[Sem.run_bind,ba U hr w,Result.andThen_ok,hu,hf,Instr.sureAddr,Sem.run_pure,bT U EI w,if_neg hz],h⟩
theorem DW:∃r,ev.ty 9=some r/\bG r.bg=false:=⟨_,rfl,rfl⟩
theorem xD:∃r,ev.ty 3=some r/\bG r.bg=false:=⟨_,rfl,rfl⟩
def Sf(L:List Tk)(p:Pr):Prop:=∃i,i<=L.length/\p.l=L.drop i
theorem Sf.at{L:List Tk}{p:Pr}(h:Sf L p):L.length - p.l.length<=L.length/\p.l=L.drop (L.length - p.l.length):=by
 obtain ⟨i,h1,h2⟩:=h;have:L.length - p.l.length=i:=by rw[h2,List.length_drop];omega
 rw[this];exact ⟨h1,h2⟩
theorem Sf.on{L:List Tk}{p:Pr}(h:Sf L p):Sf L p.on:=by
 obtain ⟨i,h1,h2⟩:=h;by_cases hi:i<L.length
 ·exact ⟨i+1,hi,by unfold Pr.on;rw[h2,List.tail_drop]⟩
 ·exact ⟨i,h1,by unfold Pr.on;rw[h2,List.drop_of_length_le (by omega)];rfl⟩
theorem Sf.aV{L:List Tk}{p:Pr}(h:Sf L p)(e:Nat×Nat):Sf L (p.aV e):=by
 unfold Pr.aV;split<;>exact h
theorem Sf.want{L:List Tk}{p:Pr}(h:Sf L p)(e:Nat×Nat)(s:List UInt8):Sf L (p.want e s):=by
 unfold Pr.want;split
 ·exact h.on
 ·exact h.aV e
theorem Sf.take{L:List Tk}{p:Pr}(h:Sf L p)(e:Nat×Nat)(k:Nat):Sf L (p.take e k).2:=by
 unfold Pr.take;split
 ·exact h.on
 ·exact h.aV e
theorem LY{a b:Nat}:((a:Int)==(b:Int))=decide (a=b):=by
 rw[Bool.eq_iff_iff,beq_iff_eq,decide_eq_true_iff];omega
theorem P1{id nt k:Nat}{l:List Oper}{t:ax}{H:List af}{Q:fp->ax->List af->Prop}(n m:Nat)(hn:Nat.ble nt aU=true)(hm:Nat.beq l.length m=true)(hB:Region.lexTailB .any l.toArray n=true)
  (h:Dx ev Tryz.prog nt l H (l.take n) t (fun t'=>Ev.wpOps ev Tryz.prog nt l (l.drop n) t' H (fun t H=>Q .normal t H))):Ev.aJ Tryz.prog nt k (.region id l.toArray true) t H Q:=aJ.tail U n hn hB h
def dB(A:Option Addr)(m:Nat)(L:List Tk)(e:Nat×Nat)(p:Pr):af:=.cells [.lit (.slice A L.length m),iA ((L.length - p.l.length:Nat):Int),iA e.1,iA e.2,iA (qT p.bad).1,iA (qT p.bad).2.1,iA (qT p.bad).2.2] Fu
section
variable{R:aH}{A:Option Addr}{m:Nat}{L:List Tk}{e:Nat×Nat}{p:Pr}
theorem ZD{s:List UInt8}(hT:gM R A L)(hs:Sf L p):CP [] 405 [.ptr 0 0,.lit (cU s)] [dB A m L e p,.res R] (fun v H'=>v=bA (p.is s)/\∃G,H'=dB A m L e p::.res R::G):=by
 obtain ⟨h1,h2⟩:=hs.at;obtain ⟨l,bad⟩:=p;cases bad with
 | some b=>
   show CP [] _ _ [.cells [.lit (.slice A L.length m),iA ((L.length - l.length:Nat):Int),iA e.1,iA e.2,iA 31,iA b.1,iA b.2] Fu,.res R] _
   refine ae U rfl ?_;repeat' ((conv=>whnf);first|with_reducible apply aa<;>intro _|refine aJ.drawn U rfl rfl ?_|with_reducible refine And.intro (aG.mk ⟨_,rfl,rfl⟩) ?_ )
   all_goals (try conv=>whnf)
   all_goals exact ⟨rfl,_,rfl⟩
 | none=>
   simp only[] at h1 h2;obtain ⟨i,hi⟩:∃i,i=L.length - l.length:=⟨_,rfl⟩;have hP:dB A m L e ⟨l,none⟩=.cells [.lit (.slice A L.length m),iA (i:Nat),iA e.1,iA e.2,iA 0,iA 0,iA 0] Fu:=by rw[hi];rfl
   rw[hP];rw[<-hi] at h1 h2;by_cases ah:i<L.length
   ·obtain ⟨a,rfl,_⟩:=hT.rd.at ah;have e1:(⟨l,none⟩:Pr).is s=decide (L[i].text=s):=by rw[h2,List.drop_eq_getElem_cons ah];rfl
    rw[e1];refine ae U rfl ?_;repeat' ((conv=>whnf);first|with_reducible apply aa<;>intro _|refine aJ.tail U 33 rfl (by kernel_rfl) ?_|refine g9.bJ U rfl rfl rfl rfl rfl ah ?_|refine g9.jW rfl rfl rfl rfl rfl rfl ?_|refine g9.aR (i:=1) (v:=.lit (cU L[i].text)) rfl (hT.one DW ah rfl) rfl rfl ?_|refine g9.pure U rfl ?_|refine g9.read U rfl ?_)
    all_goals (try conv=>whnf)
    all_goals first|exact ⟨congrArg bA (oz.symm.trans (by assumption)).symm,_,rfl⟩|(exfalso;rename_i hx;have:=of_decide_eq_false hx;omega)
   ·have e1:(⟨l,none⟩:Pr).is s=false:=by rw[h2,List.drop_of_length_le (by omega)];rfl
    rw[e1];refine ae U rfl ?_;repeat' ((conv=>whnf);first|with_reducible apply aa<;>intro _|refine aJ.drawn U rfl rfl ?_|with_reducible refine And.intro (aG.mk ⟨_,rfl,rfl⟩) ?_|(exfalso;rename_i hx;have:=of_decide_eq_true hx;omega))
    all_goals (try conv=>whnf)
    all_goals exact ⟨rfl,_,rfl⟩
theorem O6{k:Nat}(hT:gM R A L)(hs:Sf L p):CP [] 476 [.ptr 0 0,iA k] [dB A m L e p,.res R] (fun v H'=>v=bA (p.kind k)/\∃G,H'=dB A m L e p::.res R::G):=by
 obtain ⟨h1,h2⟩:=hs.at;obtain ⟨l,bad⟩:=p;cases bad with
 | some b=>
   show CP [] _ _ [.cells [.lit (.slice A L.length m),iA ((L.length - l.length:Nat):Int),iA e.1,iA e.2,iA 31,iA b.1,iA b.2] Fu,.res R] _
   refine ae U rfl ?_;repeat' ((conv=>whnf);first|with_reducible apply aa<;>intro _|refine aJ.drawn U rfl rfl ?_|with_reducible refine And.intro (aG.mk ⟨_,rfl,rfl⟩) ?_ )
   all_goals (try conv=>whnf)
   all_goals exact ⟨rfl,_,rfl⟩
 | none=>
   simp only[] at h1 h2;obtain ⟨i,hi⟩:∃i,i=L.length - l.length:=⟨_,rfl⟩;have hP:dB A m L e ⟨l,none⟩=.cells [.lit (.slice A L.length m),iA (i:Nat),iA e.1,iA e.2,iA 0,iA 0,iA 0] Fu:=by rw[hi];rfl
   rw[hP];rw[<-hi] at h1 h2;by_cases ah:i<L.length
   ·obtain ⟨a,rfl,_⟩:=hT.rd.at ah;have e1:(⟨l,none⟩:Pr).kind k=decide (L[i].kind=k):=by rw[h2,List.drop_eq_getElem_cons ah];rfl
    rw[e1];refine ae U rfl ?_;repeat' ((conv=>whnf);first|with_reducible apply aa<;>intro _|refine aJ.tail U 33 rfl (by kernel_rfl) ?_|refine g9.bJ U rfl rfl rfl rfl rfl ah ?_|refine g9.jW rfl rfl rfl rfl rfl rfl ?_|refine g9.aR (i:=1) (v:=iA L[i].kind) rfl (hT.one (j:=0) xD ah rfl) rfl rfl ?_|refine g9.pure U rfl ?_|refine g9.read U rfl ?_)
    all_goals (try conv=>whnf)
    all_goals first|exact ⟨congrArg bA (LY.symm.trans (by assumption)).symm,_,rfl⟩|(exfalso;rename_i hx;have:=of_decide_eq_false hx;omega)
   ·have e1:(⟨l,none⟩:Pr).kind k=false:=by rw[h2,List.drop_of_length_le (by omega)];rfl
    rw[e1];refine ae U rfl ?_;repeat' ((conv=>whnf);first|with_reducible apply aa<;>intro _|refine aJ.drawn U rfl rfl ?_|with_reducible refine And.intro (aG.mk ⟨_,rfl,rfl⟩) ?_|(exfalso;rename_i hx;have:=of_decide_eq_true hx;omega))
    all_goals (try conv=>whnf)
    all_goals exact ⟨rfl,_,rfl⟩
theorem jf{s:List UInt8}(h:p.is s=true):p.l≠[]:=fun hl=>by
 unfold Pr.is at h;rw[hl] at h;simp at h
theorem Ow{k:Nat}(h:p.kind k=true):p.l≠[]:=fun hl=>by
 unfold Pr.kind at h;rw[hl] at h;simp at h
theorem KS(hl:L.length<=1000000)(hs:Sf L p)(aN:p.l≠[]):af.cells [.lit (.slice A L.length m),iA (IntKind.i64.wrap (((L.length - p.l.length:Nat):Int)+1)),iA e.1,iA e.2,iA (qT p.bad).1,iA (qT p.bad).2.1,iA (qT p.bad).2.2] Fu=dB A m L e p.on:=by
 have h1:=hs.at.1;have h2:0<p.l.length:=List.length_pos_iff.2 aN;have h3:p.l.length<=L.length:=by
  obtain ⟨i,h4,h5⟩:=hs;rw[h5,List.length_drop];omega
 have h4:p.on.l.length=p.l.length - 1:=by unfold Pr.on;simp
 unfold dB;rw[h4,aj (by omega) (by omega)];have h5:(((L.length - p.l.length:Nat):Int)+1)=((L.length - (p.l.length - 1):Nat):Int):=by omega
 rw[h5];rfl
def Pr.fm(s:List UInt8)(p:Pr):Pr:=if p.is s then p.on else p
theorem dy{s:List UInt8}(hT:gM R A L)(hs:Sf L p):CP [] 304 [.ptr 0 0,.lit (cU s)] [dB A m L e p,.res R] (fun v H'=>v=bA (p.is s)/\∃G,H'=dB A m L e (p.fm s)::.res R::G):=by
 have hi:=ZD (m:=m) (e:=e) (s:=s) hT hs;unfold Pr.fm;cases hb:p.is s
 all_goals rw[hb] at hi
 ·refine ae U rfl ?_;repeat' ((conv=>whnf);first|with_reducible apply aa<;>intro _|(refine hi.use [0,1] rfl rfl ⟨⟨_,rfl,rfl⟩,ko,tU⟩ ?_;rintro _ _ ⟨rfl,G,rfl⟩;refine ⟨[],?_⟩))
  all_goals (try conv=>whnf)
  exact ⟨rfl,_,rfl⟩
 ·refine ae U rfl ?_;repeat' ((conv=>whnf);first|with_reducible apply aa<;>intro _|(refine hi.use [0,1] rfl rfl ⟨⟨_,rfl,rfl⟩,ko,tU⟩ ?_;rintro _ _ ⟨rfl,G,rfl⟩;refine ⟨[],?_⟩))
  all_goals (try conv=>whnf)
  exact ⟨rfl,_,congrArg (·::_) (KS hT.len hs (jf hb))⟩
theorem mq(hT:gM R A L)(hs:Sf L p):CP [] 302 [.ptr 0 0] [dB A m L e p,.res R] (fun v H'=>v=.agg [iA (p.place e).1,iA (p.place e).2]/\∃G,H'=dB A m L e p::.res R::G):=by
 obtain ⟨h1,h2⟩:=hs.at;obtain ⟨l,bad⟩:=p;simp only[] at h1 h2;obtain ⟨i,hi⟩:∃i,i=L.length - l.length:=⟨_,rfl⟩;have hP:dB A m L e ⟨l,bad⟩=.cells [.lit (.slice A L.length m),iA (i:Nat),iA e.1,iA e.2,iA (qT bad).1,iA (qT bad).2.1,iA (qT bad).2.2] Fu:=by rw[hi];rfl
 rw[hP];rw[<-hi] at h1 h2;by_cases ah:i<L.length
 ·obtain ⟨a,rfl,_⟩:=hT.rd.at ah;have e1:(⟨l,bad⟩:Pr).place e=(L[i].line,L[i].aS):=by rw[h2,List.drop_eq_getElem_cons ah];rfl
  rw[e1];refine ae U rfl ?_;repeat' ((conv=>whnf);first|with_reducible apply aa<;>intro _|refine P1 11 12 rfl rfl (by kernel_rfl) ?_|refine aJ.drawn U rfl rfl ?_|refine g9.bJ U rfl rfl rfl rfl rfl ah ?_|refine g9.jW rfl rfl rfl rfl rfl rfl ?_|refine g9.aR (i:=1) (v:=.agg [iA L[i].line,iA L[i].aS]) rfl (hT.pos ah) rfl rfl ?_|refine g9.pure U rfl ?_|refine g9.read U rfl ?_)
  all_goals (try conv=>whnf)
  all_goals first|exact ⟨rfl,_,rfl⟩|(exfalso;rename_i hx;have:=of_decide_eq_false hx;omega)
 ·have e1:(⟨l,bad⟩:Pr).place e=e:=by rw[h2,List.drop_of_length_le (by omega)];rfl
  rw[e1];refine ae U rfl ?_;repeat' ((conv=>whnf);first|with_reducible apply aa<;>intro _|refine aJ.drawn U rfl rfl ?_|with_reducible refine And.intro (aG.mk ⟨_,rfl,rfl⟩) ?_|(exfalso;rename_i hx;have:=of_decide_eq_true hx;omega))
  all_goals (try conv=>whnf)
  all_goals exact ⟨rfl,_,rfl⟩
theorem E7(hT:gM R A L)(hs:Sf L p):CP [] 308 [.ptr 0 0] [dB A m L e p,.res R] (fun v H'=>v=aP/\∃G,H'=dB A m L e (p.aV e)::.res R::G):=by
 have hp:=mq (m:=m) (e:=e) hT hs;obtain ⟨l,bad⟩:=p;cases bad with
 | some b=>
   show CP [] _ _ [.cells [.lit (.slice A L.length m),iA ((L.length - l.length:Nat):Int),iA e.1,iA e.2,iA 31,iA b.1,iA b.2] Fu,.res R] _
   refine ae U rfl ?_;repeat' ((conv=>whnf);with_reducible apply aa<;>intro _)
   all_goals (try conv=>whnf)
   all_goals exact ⟨rfl,_,rfl⟩
 | none=>
   obtain ⟨q,hq⟩:∃q,q=(⟨l,none⟩:Pr).place e:=⟨_,rfl⟩;have e1:(⟨l,none⟩:Pr).aV e=⟨l,some q⟩:=by rw[hq];rfl
   rw[e1];rw[<-hq] at hp;refine ae U rfl ?_;repeat' ((conv=>whnf);first|with_reducible apply aa<;>intro _|(refine hp.use [0,1] rfl rfl ⟨⟨_,rfl,rfl⟩,ko,tU⟩ ?_;rintro _ _ ⟨rfl,G,rfl⟩;refine ⟨[],?_⟩))
   all_goals (try conv=>whnf)
   all_goals exact ⟨rfl,_,rfl⟩
theorem lD{s:List UInt8}(hT:gM R A L)(hs:Sf L p):CP [] 309 [.ptr 0 0,.lit (cU s)] [dB A m L e p,.res R] (fun v H'=>v=aP/\∃G,H'=dB A m L e (p.want e s)::.res R::G):=by
 have hk:=dy (m:=m) (e:=e) (s:=s) hT hs;have hw:=E7 (m:=m) (e:=e) hT hs;unfold Pr.want;unfold Pr.fm at hk;cases hb:p.is s
 all_goals rw[hb] at hk
 all_goals
  refine ae U rfl ?_
  repeat' ((conv=>whnf);first|with_reducible apply aa<;>intro _|(refine hk.use [0,1] rfl rfl ⟨⟨_,rfl,rfl⟩,ko,tU⟩ ?_;rintro _ _ ⟨rfl,G,rfl⟩;refine ⟨[],?_⟩)|(refine hw.use [0,1] rfl rfl ⟨⟨_,rfl,rfl⟩,ko,tU⟩ ?_;rintro _ _ ⟨rfl,G,rfl⟩;refine ⟨[],?_⟩))
  all_goals (try conv=>whnf)
  all_goals exact ⟨rfl,_,rfl⟩
theorem Pb{k:Nat}(hT:gM R A L)(hs:Sf L p):CP [] 477 [.ptr 0 0,iA k] [dB A m L e p,.res R] (fun v H'=>v=.agg (D1 (p.take e k).1)/\∃G,H'=dB A m L e (p.take e k).2::.res R::G):=by
 have hk:=O6 (m:=m) (e:=e) (k:=k) hT hs;have hw:=E7 (m:=m) (e:=e) hT hs;unfold Pr.take;cases hb:p.kind k
 all_goals rw[hb] at hk
 ·refine ae U rfl ?_;repeat' ((conv=>whnf);first|with_reducible apply aa<;>intro _|(refine hk.use [0,1] rfl rfl ⟨⟨_,rfl,rfl⟩,ko,tU⟩ ?_;rintro _ _ ⟨rfl,G,rfl⟩;refine ⟨[],?_⟩)|(refine hw.use [0,1] rfl rfl ⟨⟨_,rfl,rfl⟩,ko,tU⟩ ?_;rintro _ _ ⟨rfl,G,rfl⟩;refine ⟨[],?_⟩))
  all_goals (try conv=>whnf)
  all_goals exact ⟨rfl,_,rfl⟩
 ·have aN:=Ow hb;obtain ⟨h1,h2⟩:=hs.at;obtain ⟨i,hi⟩:∃i,i=L.length - p.l.length:=⟨_,rfl⟩;have ah:i<L.length:=by
   rcases Nat.lt_or_ge i L.length with h|h
   ·exact h
   ·rw[<-hi,List.drop_of_length_le h] at h2;exact absurd h2 aN
  obtain ⟨a,rfl,bq⟩:=hT.rd.at ah;have e1:p.l.headD Tk.none=L[i]:=by rw[h2,<-hi,List.drop_eq_getElem_cons ah];rfl
  have hl:=hT.len;have Vb:IntKind.i64.wrap (IntKind.i64.wrap (((L.length - p.l.length:Nat):Int)+1) - 1)=(i:Int):=by rw[<-hi,aj (n:=(i:Int)+1) (by omega) (by omega),aj (by omega) (by omega)];omega
  simp only[if_true];rw[e1];refine ae U rfl ?_;repeat' ((conv=>whnf);first|with_reducible apply aa<;>intro _|(refine hk.use [0,1] rfl rfl ⟨⟨_,rfl,rfl⟩,ko,tU⟩ ?_;rintro _ _ ⟨rfl,G,rfl⟩;refine ⟨[],?_⟩)|refine P1 11 12 rfl rfl (by kernel_rfl) ?_|(rw[Vb];refine g9.bJ U rfl rfl rfl rfl rfl ah ?_)|refine g9.aR (i:=1) (v:=.agg (D1 L[i])) rfl (fun w S hR=>bq w S hR i ah) rfl rfl ?_|refine g9.pure U rfl ?_|refine g9.read U rfl ?_)
  all_goals (try conv=>whnf)
  exact ⟨rfl,_,congrArg (·::_) (KS hT.len hs aN)⟩
theorem E6(hT:gM R A L)(hs:Sf L p):CP [] 406 [.ptr 0 0] [dB A m L e p,.res R] (fun v H'=>v=.lit (cU (gl e p).1)/\∃G,H'=dB A m L e (gl e p).2::.res R::G):=by
 have h1:=Pb (m:=m) (e:=e) (k:=1) hT hs;unfold gl;obtain ⟨q,hq⟩:∃q,q=p.take e 1:=⟨_,rfl⟩;rw[<-hq] at h1 ⊢;refine ae U rfl ?_;repeat' ((conv=>whnf);first|with_reducible apply aa<;>intro _|(refine h1.use [0,1] rfl rfl ⟨⟨_,rfl,rfl⟩,ko,tU⟩ ?_;rintro _ _ ⟨rfl,G,rfl⟩;refine ⟨[],?_⟩))
 all_goals (try conv=>whnf)
 all_goals exact ⟨rfl,_,rfl⟩
theorem wM(hT:gM R A L)(hs:Sf L p):CP [] 404 [.ptr 0 0] [dB A m L e p,.res R] (fun v H'=>v=iA (fy e p).1/\∃G,H'=dB A m L e (fy e p).2::.res R::G):=by
 have h1:=Pb (m:=m) (e:=e) (k:=3) hT hs;unfold fy;obtain ⟨q,hq⟩:∃q,q=p.take e 3:=⟨_,rfl⟩;rw[<-hq] at h1 ⊢;refine ae U rfl ?_;repeat' ((conv=>whnf);first|with_reducible apply aa<;>intro _|(refine h1.use [0,1] rfl rfl ⟨⟨_,rfl,rfl⟩,ko,tU⟩ ?_;rintro _ _ ⟨rfl,G,rfl⟩;refine ⟨[],?_⟩))
 all_goals (try conv=>whnf)
 all_goals exact ⟨rfl,_,rfl⟩
theorem Sf.name(h:Sf L p)(e:Nat×Nat):Sf L (gl e p).2:=h.take e 1
theorem Sf.num(h:Sf L p)(e:Nat×Nat):Sf L (fy e p).2:=h.take e 3
theorem Sf.VO(h:Sf L p)(e:Nat×Nat):Sf L (ij e p).2:=by
 unfold ij;simp only[];repeat' split
 ·exact h.on
 ·exact h.name e
 ·exact h.num e
theorem Sf.where(h:Sf L p)(e:Nat×Nat):Sf L (fZ e p).2:=by
 unfold fZ;simp only[];split
 ·exact h.on
 ·exact h.name e
theorem Sf.P3(h:Sf L p)(e:Nat×Nat):Sf L (fY e p).2.2:=by
 unfold fY;simp only[];repeat' split
 ·exact h.on
 ·exact (h.num e).on.num e
 ·exact h.num e
theorem Sf.box(h:Sf L p)(e:Nat×Nat):Sf L (gG e p).2:=(((h.num e).num e).num e).num e
theorem S6(hT:gM R A L)(hs:Sf L p):CP [] 402 [.ptr 0 0] [dB A m L e p,.res R] (fun v H'=>v=.agg (wA (ij e p).1)/\∃G,H'=dB A m L e (ij e p).2::.res R::G):=by
 have h1:=mq (m:=m) (e:=e) hT hs;have h2:=dy (m:=m) (e:=e) (s:=ov) hT hs;have h3:=O6 (m:=m) (e:=e) (k:=1) hT hs;have h4:=E6 (m:=m) (e:=e) hT hs;have h5:=wM (m:=m) (e:=e) hT hs;unfold ij;unfold Pr.fm at h2;obtain ⟨y,hy⟩:∃y,y=p.place e:=⟨_,rfl⟩;obtain ⟨a,ha⟩:∃a,a=gl e p:=⟨_,rfl⟩;obtain ⟨b,hb⟩:∃b,b=fy e p:=⟨_,rfl⟩;obtain ⟨x,hx⟩:∃x,x=p.is ov:=⟨_,rfl⟩;obtain ⟨k,hk⟩:∃k,k=p.kind 1:=⟨_,rfl⟩;obtain ⟨p',hp⟩:∃p',p'=p.on:=⟨_,rfl⟩;rw[<-hy] at h1 ⊢;rw[<-ha] at h4 ⊢;rw[<-hb] at h5 ⊢;rw[<-hx,<-hp] at h2 ⊢;rw[<-hk] at h3 ⊢;clear hx hk;cases x<;>cases k
 all_goals
  refine ae U rfl ?_
  repeat' ((conv=>whnf);first|with_reducible apply aa<;>intro _|(refine h1.use [0,1] rfl rfl ⟨⟨_,rfl,rfl⟩,ko,tU⟩ ?_;rintro _ _ ⟨rfl,G,rfl⟩;refine ⟨[],?_⟩)|(refine h2.use [0,1] rfl rfl ⟨⟨_,rfl,rfl⟩,ko,tU⟩ ?_;rintro _ _ ⟨rfl,G,rfl⟩;refine ⟨[],?_⟩)|(refine h3.use [0,1] rfl rfl ⟨⟨_,rfl,rfl⟩,ko,tU⟩ ?_;rintro _ _ ⟨rfl,G,rfl⟩;refine ⟨[],?_⟩)|(refine h4.use [0,1] rfl rfl ⟨⟨_,rfl,rfl⟩,ko,tU⟩ ?_;rintro _ _ ⟨rfl,G,rfl⟩;refine ⟨[],?_⟩)|(refine h5.use [0,1] rfl rfl ⟨⟨_,rfl,rfl⟩,ko,tU⟩ ?_;rintro _ _ ⟨rfl,G,rfl⟩;refine ⟨[],?_⟩))
  all_goals (try conv=>whnf)
  all_goals exact ⟨rfl,_,rfl⟩
theorem RD(hT:gM R A L)(hs:Sf L p):CP [] 403 [.ptr 0 0] [dB A m L e p,.res R] (fun v H'=>v=.agg (wA (fZ e p).1)/\∃G,H'=dB A m L e (fZ e p).2::.res R::G):=by
 have h1:=mq (m:=m) (e:=e) hT hs;have h2:=dy (m:=m) (e:=e) (s:=BU) hT hs;have h4:=E6 (m:=m) (e:=e) hT hs;unfold fZ;unfold Pr.fm at h2;obtain ⟨y,hy⟩:∃y,y=p.place e:=⟨_,rfl⟩;obtain ⟨a,ha⟩:∃a,a=gl e p:=⟨_,rfl⟩;obtain ⟨x,hx⟩:∃x,x=p.is BU:=⟨_,rfl⟩;obtain ⟨p',hp⟩:∃p',p'=p.on:=⟨_,rfl⟩;rw[<-hy] at h1 ⊢;rw[<-ha] at h4 ⊢;rw[<-hx,<-hp] at h2 ⊢;clear hx;cases x
 all_goals
  refine ae U rfl ?_
  repeat' ((conv=>whnf);first|with_reducible apply aa<;>intro _|(refine h1.use [0,1] rfl rfl ⟨⟨_,rfl,rfl⟩,ko,tU⟩ ?_;rintro _ _ ⟨rfl,G,rfl⟩;refine ⟨[],?_⟩)|(refine h2.use [0,1] rfl rfl ⟨⟨_,rfl,rfl⟩,ko,tU⟩ ?_;rintro _ _ ⟨rfl,G,rfl⟩;refine ⟨[],?_⟩)|(refine h4.use [0,1] rfl rfl ⟨⟨_,rfl,rfl⟩,ko,tU⟩ ?_;rintro _ _ ⟨rfl,G,rfl⟩;refine ⟨[],?_⟩))
  all_goals (try conv=>whnf)
  all_goals exact ⟨rfl,_,rfl⟩
theorem RC(hT:gM R A L)(hs:Sf L p):CP [] 401 [.ptr 0 0] [dB A m L e p,.res R] (fun v H'=>v=.tuple [iA (fY e p).1,iA (fY e p).2.1]/\∃G,H'=dB A m L e (fY e p).2.2::.res R::G):=by
 have h1:=dy (m:=m) (e:=e) (s:=ov) hT hs;have h2:=wM (m:=m) (e:=e) hT hs;have h3:=dy (m:=m) (e:=e) (s:=x7) hT (hs.num e);have h4:=wM (m:=m) (e:=e) hT (hs.num e).on;unfold fY;simp only[];unfold Pr.fm at h1 h3;obtain ⟨a,ha⟩:∃a,a=fy e p:=⟨_,rfl⟩;rw[<-ha] at h2 h3 h4 ⊢;obtain ⟨b,hb⟩:∃b,b=fy e a.2.on:=⟨_,rfl⟩;obtain ⟨x,hx⟩:∃x,x=p.is ov:=⟨_,rfl⟩;obtain ⟨y,hy⟩:∃y,y=a.2.is x7:=⟨_,rfl⟩;obtain ⟨p',hp⟩:∃p',p'=p.on:=⟨_,rfl⟩;obtain ⟨p2,QW⟩:∃p2,p2=a.2.on:=⟨_,rfl⟩;rw[<-QW] at hb h3 h4 ⊢;rw[<-hb] at h4 ⊢;rw[<-hx,<-hp] at h1 ⊢;rw[<-hy] at h3 ⊢;clear hx hy;cases x<;>cases y
 all_goals
  refine ae U rfl ?_
  repeat' ((conv=>whnf);first|with_reducible apply aa<;>intro _|(refine h1.use [0,1] rfl rfl ⟨⟨_,rfl,rfl⟩,ko,tU⟩ ?_;rintro _ _ ⟨rfl,G,rfl⟩;refine ⟨[],?_⟩)|(refine h2.use [0,1] rfl rfl ⟨⟨_,rfl,rfl⟩,ko,tU⟩ ?_;rintro _ _ ⟨rfl,G,rfl⟩;refine ⟨[],?_⟩)|(refine h3.use [0,1] rfl rfl ⟨⟨_,rfl,rfl⟩,ko,tU⟩ ?_;rintro _ _ ⟨rfl,G,rfl⟩;refine ⟨[],?_⟩)|(refine h4.use [0,1] rfl rfl ⟨⟨_,rfl,rfl⟩,ko,tU⟩ ?_;rintro _ _ ⟨rfl,G,rfl⟩;refine ⟨[],?_⟩))
  all_goals (try conv=>whnf)
  all_goals exact ⟨rfl,_,rfl⟩
theorem S5(hT:gM R A L)(hs:Sf L p):CP [] 478 [.ptr 0 0] [dB A m L e p,.res R] (fun v H'=>v=.agg ((gN (gG e p).1).map .lit)/\∃G,H'=dB A m L e (gG e p).2::.res R::G):=by
 have h1:=wM (m:=m) (e:=e) hT hs;have h2:=wM (m:=m) (e:=e) hT (hs.num e);have h3:=wM (m:=m) (e:=e) hT ((hs.num e).num e);have h4:=wM (m:=m) (e:=e) hT (((hs.num e).num e).num e);unfold gG;simp only[];obtain ⟨a,ha⟩:∃a,a=fy e p:=⟨_,rfl⟩;rw[<-ha] at h1 h2 h3 h4 ⊢;obtain ⟨b,hb⟩:∃b,b=fy e a.2:=⟨_,rfl⟩;rw[<-hb] at h2 h3 h4 ⊢;obtain ⟨c,hc⟩:∃c,c=fy e b.2:=⟨_,rfl⟩;rw[<-hc] at h3 h4 ⊢;obtain ⟨d,hd⟩:∃d,d=fy e c.2:=⟨_,rfl⟩;rw[<-hd] at h4 ⊢;clear ha hb hc hd;refine ae U rfl ?_;conv=>whnf
 refine aW U rfl (fun i:Nat=>[(0,.ptr 0 0),(2,.ptr 2 0),(3,.ptr 3 0),(5,iA (i:Nat))]) (fun i=>match i with
   | 0=>[dB A m L e p,.res R,.cells [iA 0,iA 0,iA 0,iA 0] nA,.cells [iA 0,iA 0,iA 0,iA 0] 424]
   | 1=>[dB A m L e a.2,.res R,.cells [iA 0,iA 0,iA 0,iA 0] nA,.cells [iA a.1,iA 0,iA 0,iA 0] 424]
   | 2=>[dB A m L e b.2,.res R,.cells [iA 0,iA 0,iA 0,iA 0] nA,.cells [iA a.1,iA b.1,iA 0,iA 0] 424]
   | 3=>[dB A m L e c.2,.res R,.cells [iA 0,iA 0,iA 0,iA 0] nA,.cells [iA a.1,iA b.1,iA c.1,iA 0] 424]
   | _=>[dB A m L e d.2,.res R,.cells [iA 0,iA 0,iA 0,iA 0] nA,.cells [iA a.1,iA b.1,iA c.1,iA d.1] 424])
  (fun i=>i<=4) (fun i=>4 - i) 0 (Nat.zero_le _) [0,1,2,3] ?_ ?_
 ·exact ⟨rfl,⟨rr,rr,rr,rr,tU⟩,⟨⟨_,rfl,rfl⟩,ko,⟨_,rfl,rfl⟩,⟨_,rfl,rfl⟩,tU⟩⟩
 ·intro i hi;match i,hi with
  | 4,_=>
    repeat' ((conv=>whnf);first|with_reducible apply aa<;>intro _|refine aI.of (k:=0) rfl (by omega) ?_|refine aI.of (k:=1) rfl (by omega) ?_|refine aI.of (k:=2) rfl (by omega) ?_|refine aI.of (k:=3) rfl (by omega) ?_)
    all_goals (try conv=>whnf)
    exact ⟨rfl,_,rfl⟩
  | 0,_|1,_|2,_|3,_=>
    repeat' ((conv=>whnf);first|with_reducible apply aa<;>intro _|refine aI.of (k:=0) rfl (by omega) ?_|refine aI.of (k:=1) rfl (by omega) ?_|refine aI.of (k:=2) rfl (by omega) ?_|refine aI.of (k:=3) rfl (by omega) ?_|(refine h1.use [0,1] rfl rfl ⟨⟨_,rfl,rfl⟩,ko,tU⟩ ?_;rintro _ _ ⟨rfl,G,rfl⟩;refine ⟨[],?_⟩)|(refine h2.use [0,1] rfl rfl ⟨⟨_,rfl,rfl⟩,ko,tU⟩ ?_;rintro _ _ ⟨rfl,G,rfl⟩;refine ⟨[],?_⟩)|(refine h3.use [0,1] rfl rfl ⟨⟨_,rfl,rfl⟩,ko,tU⟩ ?_;rintro _ _ ⟨rfl,G,rfl⟩;refine ⟨[],?_⟩)|(refine h4.use [0,1] rfl rfl ⟨⟨_,rfl,rfl⟩,ko,tU⟩ ?_;rintro _ _ ⟨rfl,G,rfl⟩;refine ⟨[],?_⟩))
    all_goals (try conv=>whnf)
    first
     | exact ⟨1,[0,1,2,3],⟨by decide,by decide⟩,rfl,⟨rr,rr,rr,rr,tU⟩,⟨⟨_,rfl,rfl⟩,ko,⟨_,rfl,rfl⟩,⟨_,rfl,rfl⟩,tU⟩⟩
     | exact ⟨2,[0,1,2,3],⟨by decide,by decide⟩,rfl,⟨rr,rr,rr,rr,tU⟩,⟨⟨_,rfl,rfl⟩,ko,⟨_,rfl,rfl⟩,⟨_,rfl,rfl⟩,tU⟩⟩
     | exact ⟨3,[0,1,2,3],⟨by decide,by decide⟩,rfl,⟨rr,rr,rr,rr,tU⟩,⟨⟨_,rfl,rfl⟩,ko,⟨_,rfl,rfl⟩,⟨_,rfl,rfl⟩,tU⟩⟩
     | exact ⟨4,[0,1,2,3],⟨by decide,by decide⟩,rfl,⟨rr,rr,rr,rr,tU⟩,⟨⟨_,rfl,rfl⟩,ko,⟨_,rfl,rfl⟩,⟨_,rfl,rfl⟩,tU⟩⟩
theorem dP.full{E:Env}{P:Program}{m:Bool}{S:List Nat}{t:ax}{cl:Call}{ty elem size:Nat}{H:List af}{K:AV->List af->Prop}(hA:jE E ty elem size){o len ox:Nat}{c:o0}{l:List AV}{e:TypeId}{xs ys:List Value}{ob:af}(eO:Nat.blt H.length aU=true)(ho:H[o]?=some ob)(sh:vw ob=.cells (xs.map .lit) elem)(hx:H[ox]?=some (.cells l e))(hl:mS l=some ys)(hn:Nat.beq l.length size=true)(h1:l.all AV.one=true)
  (gw:xs.length=len * size) (hlen:len+1<=2147483648)
  (k:pg H (.row (xs++ys) elem) fun H'=>oc (qb H 0) fun n=>K (.slice n 0 (len+1) (.grown size)) H'):dP E P m S t cl ty (.slice o 0 len (.k len)) (.slice ox 0 1 c) H K:=by
 obtain ⟨r,hr,hu⟩:=hA.ty;obtain ⟨er,z,he,hs,hz,hc,hb⟩:=hA.el;have ah:=gA eO;have rj:=(List.getElem?_eq_some_iff.1 ho).1;rw[kQ,iE,lf,Nat.zero_add] at k;refine ⟨.inl ⟨.slice H.length 0 (len+(0+1)) (.grown size),{ heap:=(hp H).heap.put H.length (.cells (xs.map .lit++l) elem),next:=H.length+1 },_,?_,?_,?_,pv (ob:=.row (xs++ys) elem) rfl,k⟩⟩
 ·have hf:=uP (size:=size) (c:=c) (Nat.le_of_lt ah) hx hn;have e1:iS (hp H) size len (.slice o 0 len (.k len))=some (xs.map .lit):=by
   cases len with
   | zero=>
     have:xs=[]:=List.eq_nil_of_length_eq_zero (by omega);subst this;rfl
   | succ len=>
     simp only[iS];rw[aT (Nat.le_of_lt ah),ho];simp only[Option.map_some,sh,Nat.zero_add,List.drop_zero,List.length_map];rw[show Nat.ble ((len+1) * size) xs.length=true from Nat.ble_eq_true_of_le (by omega),show Nat.ble (len+1) (len+1)=true from Nat.ble_eq_true_of_le (Nat.le_refl _)];simp only[Bool.and_self];rw[List.take_of_length_le (by simp;omega)]
  simp only[mw,hr,hu,he,ir,hs,hf,e1,hz];simp only[Au,Bool.not_false,Bool.and_true];rw[show Nat.ble ((len+(0+1)) * er.info.bytes) 140737488355328=true from Nat.ble_eq_true_of_le (Nat.le_trans (Nat.mul_le_mul (Nat.le_trans (by omega) hlen) hb) (by decide)),show Nat.ble (len+(0+1)) 4611686018427387904=true from Nat.ble_eq_true_of_le (by omega),show Nat.ble er.info.bytes 65536=true from Nat.ble_eq_true_of_le hb,show Nat.blt (hp H).next aU=true from eO,hc,h1];rw[show Nat.beq size size=true from Nat.beq_refl _,show Nat.beq (xs.map AV.lit).length (len * size)=true by rw[List.length_map,gw];exact Nat.beq_refl _,show Nat.beq l.length ((0+1) * size)=true by rw[Nat.zero_add,Nat.one_mul];exact hn];have QU:Nat.ble (len+(0+1)) len=false:=by
   rw[Bool.eq_false_iff];intro h;have:=Nat.le_of_ble_eq_true h;omega
  simp only[Bool.and_self,QU];rfl
 ·refine ⟨by simp,fun q=>?_⟩;simp only[];rw[T.bH _ _ _ _ (Nat.le_of_lt ah),aT (Nat.le_of_lt ah)];by_cases e:q=H.length
  ·subst e;rw[if_pos rfl];simp[vw,nC hl]
  ·rw[if_neg e];rcases Nat.lt_or_ge q H.length with h5|h5
   ·rw[List.getElem?_append_left h5]
   ·rw[List.getElem?_eq_none h5,List.getElem?_eq_none (by simp;omega)]
 ·simp[qm]
theorem tq(e:Nat×Nat):∀(k j:Nat) (p:Pr) (out:List Bx),p.l.length<=k->p.l.length<=j->fu e k p out=fu e j p out:=by
 have h0:∀(j:Nat) (p:Pr) (out:List Bx),p.is [43]=false->fu e j p out=(out,p):=fun j p out h=>by
  cases j
  ·rfl
  ·unfold fu;rw[h];rfl
 have hn:∀p:Pr,p.l.length<=0->p.is [43]=false:=fun p h=>by
  cases hb:p.is [43] with
  | false=>rfl
  | true=>exact absurd (List.eq_nil_of_length_eq_zero (by omega)) (jf hb)
 intro k;induction k with
 | zero=>intro j p out h _;rw[h0 _ _ _ (hn p h),h0 _ _ _ (hn p h)]
 | succ k ih=>
   intro j p out h1 h2;cases hb:p.is [43] with
   | false=>rw[h0 _ _ _ hb,h0 _ _ _ hb]
   | true=>
     have aN:0<p.l.length:=List.length_pos_iff.2 (jf hb);have h3:=p9 e p.on;have h4:p.on.l.length=p.l.length - 1:=by unfold Pr.on;simp
     cases j with
     | zero=>omega
     | succ j=>
       unfold fu;rw[hb];exact ih j _ _ (by omega) (by omega)
theorem Be(e:Nat×Nat){p:Pr}{out:List Bx}(hb:p.is [43]=true):fu e p.l.length p out=fu e (gG e p.on).2.l.length (gG e p.on).2 (out++[(gG e p.on).1])/\(gG e p.on).2.l.length<p.l.length:=by
 have aN:0<p.l.length:=List.length_pos_iff.2 (jf hb);have h3:=p9 e p.on;have h4:p.on.l.length=p.l.length - 1:=by unfold Pr.on;simp
 refine ⟨?_,by omega⟩;rw[tq e p.l.length (p.l.length - 1+1) p out (Nat.le_refl _) (by omega)];rw[fu,hb];exact tq e _ _ _ _ (by omega) (Nat.le_refl _)
theorem Bf(e:Nat×Nat){p:Pr}{out:List Bx}(hb:p.is [43]=false)(k:Nat):fu e k p out=(out,p):=by
 cases k
 ·rfl
 ·unfold fu;rw[hb];rfl
theorem Sf.le(h:Sf L p):p.l.length<=L.length:=by
 obtain ⟨i,h4,h5⟩:=h;rw[h5,List.length_drop];omega
def Ku:Option (List Bx)->Bx->af
 | none,b=>.cells ((gN b).map .lit) nA
 | some l,b=>.row ((b::l).flatMap gN) nA
def Nk:Option (List Bx)->AV
 | none=>.slice 2 0 1 (.k 1)
 | some l=>.slice 2 0 (l.length+1) (.grown 4)
def uj:Option (List Bx)->Bx->List Bx
 | none,b=>[b]
 | some l,b=>b::l
theorem O4(hT:gM R A L)(hs:Sf L p):CP [] 407 [.ptr 0 0] [dB A m L e p,.res R] (fun v H'=>∃o b,v=Nk o/\uj o b=(bt e p).1/\∃G,H'=dB A m L e (bt e p).2::.res R::Ku o b::G):=by
 have h1:=S5 (m:=m) (e:=e) hT hs;have pb:=hs.box e;have hL:=hT.len;have hle:=p9 e p;unfold bt;obtain ⟨⟨b,p1⟩,hq⟩:∃q,q=gG e p:=⟨_,rfl⟩;rw[<-hq] at h1 pb hle ⊢;clear hq;simp only[] at h1 pb hle ⊢;obtain ⟨r,hr⟩:∃r,r=fu e p.l.length p1 [b]:=⟨_,rfl⟩;rw[<-hr];rw[tq e _ _ _ _ hle (Nat.le_refl _)] at hr;refine ae U rfl ?_;repeat' ((conv=>whnf);first|with_reducible apply aa<;>intro _|(refine h1.use [0,1] rfl rfl ⟨⟨_,rfl,rfl⟩,ko,tU⟩ ?_;rintro _ _ ⟨rfl,G,rfl⟩;refine ⟨[],?_⟩))
 refine aW U rfl (fun s:Option (List Bx)×Pr=>[(0,.ptr 0 0),(3,Nk s.1)]) (fun s=>[dB A m L e s.2,.res R,Ku s.1 b])
  (fun s=>Sf L s.2/\r=fu e s.2.l.length s.2 (uj s.1 b)/\(uj s.1 b).length+s.2.l.length<=1000001) (fun s=>s.2.l.length) (none,p1) ⟨pb,hr,by have:=pb.le;show 1+p1.l.length<=1000001;omega⟩ [0,1,2] ?_ ?_
 ·exact ⟨rfl,⟨rr,rr,tU⟩,⟨⟨_,rfl,rfl⟩,ko,⟨_,rfl,rfl⟩,tU⟩⟩
 ·rintro ⟨o,p2⟩ ⟨nY,jR,gd⟩;simp only[] at nY jR gd ⊢;have h2:=dy (m:=m) (e:=e) (s:=[43]) hT nY;unfold Pr.fm at h2;cases hb:p2.is [43] with
  | false=>
    rw[Bf e hb] at jR;rw[hb] at h2;subst jR;simp only[Bool.false_eq_true,if_false] at h2;rcases o with _|l;all_goals
     conv=>whnf
     repeat' ((conv=>whnf);first|with_reducible apply aa<;>intro _|(refine h2.use [0,1] rfl rfl ⟨⟨_,rfl,rfl⟩,ko,tU⟩ ?_;rintro _ _ ⟨rfl,G,rfl⟩;refine ⟨[],?_⟩))
     all_goals (try conv=>whnf)
    ·exact ⟨none,b,rfl,rfl,_,rfl⟩
    ·exact ⟨some l,b,rfl,rfl,_,rfl⟩
  | true=>
    obtain ⟨pF,ah⟩:=Be e (out:=uj o b) hb;have h3:=S5 (m:=m) (e:=e) hT nY.on;have Q0:=nY.on.box e;rw[hb] at h2;rw[pF] at jR;clear pF;obtain ⟨⟨x,p3⟩,hq⟩:∃q,q=gG e p2.on:=⟨_,rfl⟩;obtain ⟨p4,Xp⟩:∃p4,p4=p2.on:=⟨_,rfl⟩;rw[<-hq] at h3 Q0 jR ah;rw[<-Xp] at h2 h3;clear hq Xp hb;simp only[if_true] at h2;simp only[] at h3 Q0 jR ah;cases o with
    | none=>
      conv=>whnf
      repeat' ((conv=>whnf);first|with_reducible apply aa<;>intro _|(refine h2.use [0,1] rfl rfl ⟨⟨_,rfl,rfl⟩,ko,tU⟩ ?_;rintro _ _ ⟨rfl,G,rfl⟩;refine ⟨[],?_⟩)|(refine h3.use [0,1] rfl rfl ⟨⟨_,rfl,rfl⟩,ko,tU⟩ ?_;rintro _ _ ⟨rfl,G,rfl⟩;refine ⟨[],?_⟩)|refine dP.full (xs:=gN b) mn rfl rfl rfl rfl rfl rfl rfl rfl (by decide) ?_)
      all_goals (try conv=>whnf)
      exact ⟨(some [x],p3),[0,1,4],⟨⟨Q0,jR,by simp[uj] at gd ⊢;omega⟩,ah⟩,rfl,⟨rr,rr,tU⟩,⟨⟨_,rfl,rfl⟩,ko,⟨_,rfl,rfl⟩,tU⟩⟩
    | some l=>
      have Z4:l.length+1+p2.l.length<=1000001:=by simpa [uj] using gd
      conv=>whnf
      repeat' ((conv=>whnf);first|with_reducible apply aa<;>intro _|(refine h2.use [0,1] rfl rfl ⟨⟨_,rfl,rfl⟩,ko,tU⟩ ?_;rintro _ _ ⟨rfl,G,rfl⟩;refine ⟨[],?_⟩)|(refine h3.use [0,1] rfl rfl ⟨⟨_,rfl,rfl⟩,ko,tU⟩ ?_;rintro _ _ ⟨rfl,G,rfl⟩;refine ⟨[],?_⟩)|refine dP.own mn rfl rfl rfl rfl rfl rfl (by rw[eL po];rfl) (by omega) ?_)
      all_goals (try conv=>whnf)
      exact ⟨(some (l++[x]),p3),[0,1,4],⟨⟨Q0,jR,by simp[uj] at gd ⊢;omega⟩,ah⟩,rfl,⟨rr,⟨rfl,by simp[Nk];rfl⟩,tU⟩,⟨⟨_,rfl,rfl⟩,ko,⟨_,rfl,by simp[Ku];rfl⟩,tU⟩⟩
def V6:Option (List Bx)->AV
 | none=>.slice 3 0 1 (.k 1)
 | some l=>.slice 3 0 (l.length+1) (.grown 4)
theorem O5{pl:List (Value×List Bx)}(hT:gM R A L)(hs:Sf L p):CP [] 407 [.ptr 0 0] [dB A m L e p,.res R,.res (ay pl)] (fun v H'=>∃o b,v=V6 o/\uj o b=(bt e p).1/\H'=[dB A m L e (bt e p).2,.res R,.res (ay pl),Ku o b]):=by
 refine (O4 (m:=m) (e:=e) hT hs).use [0,1] rfl rfl ⟨⟨_,rfl,rfl⟩,ko,tU⟩ ?_;rintro _ _ ⟨o,b,rfl,hl,G,rfl⟩;refine ⟨[2],?_⟩;rcases o with _|l;all_goals (conv=>whnf)
 ·exact ⟨none,b,rfl,hl,rfl⟩
 ·exact ⟨some l,b,rfl,hl,rfl⟩
theorem Ru{pl:List (Value×List Bx)}(hT:gM R A L)(hs:Sf L p):CP [] 407 [.ptr 0 0] [dB A m L e p,.res R,.res (ay pl)] (fun v H'=>∃a k,a.spot=none/\v=.lit (.slice (some a) (bt e p).1.length k)/\(bt e p).1≠[]/\∃G,H'=dB A m L e (bt e p).2::.res R::.res (ay (pl++[(.slice (some a) (bt e p).1.length k,(bt e p).1)]))::G):=by
 refine ag.post (K:=fun v H'=>∃b off k,v=.lit (.slice (some ⟨b,off,none⟩) (bt e p).1.length k)/\(bt e p).1≠[]/\H'=[dB A m L e (bt e p).2,.res R,.res (ay pl),.res (kF ⟨b,off,none⟩ ((bt e p).1.flatMap gN))]) (ag.SY (O5 (pl:=pl) hT hs) ?_) ?_
 ·rintro _ _ ⟨o,b,rfl,hl,rfl⟩;rw[<-hl];rcases o with _|l
  ·exact .inr ⟨3,1,.k 1,gN b,nA,rfl,by omega,.inr rfl,fun c off k=>⟨c,off,k,rfl,by simp[uj],rfl⟩⟩
  ·exact .inr ⟨3,l.length+1,.grown 4,(b::l).flatMap gN,nA,rfl,by omega,.inl rfl,fun c off k=>⟨c,off,k,rfl,by simp[uj],rfl⟩⟩
 ·rintro _ _ ⟨b,off,k,rfl,aN,rfl⟩;refine ⟨[dB A m L e (bt e p).2,.res R,.res (ay (pl++[(.slice (some ⟨b,off,none⟩) (bt e p).1.length k,(bt e p).1)])),.res aA],fP.same rfl ?_,_,k,rfl,rfl,aN,_,rfl⟩;exact (bc.merge (i:=2) (j:=3) rfl rfl rfl (u9 aN)).trans (.of_eq rfl)
end
end Go.Proofs.YtmbdghclhpboaaaGreat
