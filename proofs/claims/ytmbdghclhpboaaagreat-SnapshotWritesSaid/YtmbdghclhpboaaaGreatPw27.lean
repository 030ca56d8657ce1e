/- Part of the proof: SyR Lx Lx2 Lx3 Lx4. Conditions: as each states. -/
import Derived.Test.YtmbdghclhpboaaaGreatPw26
import Derived.Lib.Strings
set_option linter.all false
set_option maxRecDepth 100000
namespace Go.Proofs.YtmbdghclhpboaaaGreat.Ev
section
variable{P:Program}{E:Env}{m:Bool}{S:List Nat}{t:ax}{H:List af}{K:AV->List af->Prop}
theorem ai.ej{ty:TypeId}{r:cZ}{x i:Operand}{l:List UInt8}{q:IntKind}{z:Int}{k:Nat}(hr:E.ty ty=some r)(hu:r.bg=.string)(hx:aE t x=some (.lit (.string ⟨l.toArray⟩)))(hi:aE t i=some (.lit (.int q z)))(hz:z=(k:Int))(hk:k<l.length)(h:K (.lit (.int .u8 (l[k].toNat:Int))) H):ai E P m S t H (.index ty x i) K:=.ev
 ⟨.pure (.lit (.int .u8 (l[k].toNat:Int))),by
  subst hz;have e:(⟨l.toArray⟩:ByteArray).data.toList[k]?=some l[k]:=List.getElem?_eq_getElem hk;have e2:lz (.lit (.int q (k:Int)))=some k:=rfl;simp only[bz,hr,hx,hi,hu,e2,e],h⟩
theorem PX(l:List UInt8)(i j:Nat):(ByteArray.mk l.toArray).extract i j=⟨((l.take j).drop i).toArray⟩:=by
 apply ByteArray.ext;apply Array.ext';rw[Lib.extract_data (ByteArray.mk l.toArray) i j];show (l.drop i).take (j - i)=(l.take j).drop i
 rw[List.drop_take]
theorem ai.xZ{ty:TypeId}{r:cZ}{x lo hi:Operand}{l:List UInt8}{q q':IntKind}{z z':Int}{i j:Nat}(hr:E.ty ty=some r)(hu:r.bg=.string)(hx:aE t x=some (.lit (.string ⟨l.toArray⟩)))(UJ:aE t lo=some (.lit (.int q z)))(UF:aE t hi=some (.lit (.int q' z')))(hz:z=(i:Int))(On:z'=(j:Int))(o8:i<=j)(hj:j<=l.length)(h:K (.lit (.string ⟨((l.take j).drop i).toArray⟩)) H):ai E P m S t H (.slice ty x (some lo) (some hi) none) K:=.ev
 ⟨.pure (.lit (.string ⟨((l.take j).drop i).toArray⟩)),by
  subst hz On;have e1:lz (.lit (.int q (i:Int)))=some i:=rfl;have e2:lz (.lit (.int q' (j:Int)))=some j:=rfl;have e3:Nat.ble j (ByteArray.mk l.toArray).size=true:=Nat.ble_eq_true_of_le hj;have e4:Nat.ble i j=true:=Nat.ble_eq_true_of_le o8;simp only[bz,hx,qq,UJ,UF,zH,hr,hu,nN,Gl,xy,Hh,xM,B6,e1,e2,e3,e4,PX,Option.map_some],h⟩
end
theorem add_add(a:Addr)(i j:Nat):(a.add i).add j=a.add (i+j):=by
 unfold Addr.add;by_cases hi:i=0<;>by_cases hj:j=0<;>simp[hi,hj,Nat.add_assoc]
theorem z6{P:Program}{a:Addr}{w:World}:∀(n i:Nat) (acc r:Array Value) (w':World),(loadCellsFrom a i n acc).run P w=.ok r w'->∃cs:List Value,r.toList=acc.toList++cs/\∀(j:Nat) u,cs[j]?=some u->(load (a.add (i+j))).run P w=.ok u w
 | 0,i,acc,r,w',h=>by
   simp only[loadCellsFrom,Sem.run_pure,Result.ok.injEq] at h;exact ⟨[],by rw[h.1];simp,by simp⟩
 | n+1,i,acc,r,w',h=>by
   rw[loadCellsFrom,Sem.run_bind] at h;have hw:∀v w1,(load (a.add i)).run P w=.ok v w1->w1=w:=fun v w1 h=>by
    rw[run_load] at h;split at h
    ·simp only[Result.ok.injEq] at h;exact h.2.symm
    ·split at h
     ·simp only[Result.ok.injEq] at h;exact h.2.symm
     ·cases h
   cases hc:(load (a.add i)).run P w with
   | ok v w1=>
     have wv:=hw v w1 hc;subst wv;rw[hc] at h;simp only[Result.andThen_ok] at h;obtain ⟨cs,h1,h2⟩:=z6 n (i+1) (acc.push v) r w' h;refine ⟨v::cs,by rw[h1];simp,fun j u hj=>?_⟩;cases j with
     | zero=>simp only[List.getElem?_cons_zero,Option.some.injEq] at hj;subst hj;exact hc
     | succ j=>
       simp only[List.getElem?_cons_succ] at hj;have:=h2 j u hj;rwa [show i+1+j=i+(j+1) by omega] at this
   | _=>rw[hc] at h;simp[Result.andThen] at h
theorem z7{P:Program}{a:Addr}{w:World}:∀(cs:List Value) (i:Nat) (acc:Array Value),(∀(j:Nat) u,cs[j]?=some u->(load (a.add (i+j))).run P w=.ok u w)->(loadCellsFrom a i cs.length acc).run P w=.ok (acc++cs.toArray) w
 | [],i,acc,h=>by simp[loadCellsFrom,Sem.run_pure]
 | v::cs,i,acc,h=>by
   simp only[List.length_cons];rw[loadCellsFrom,Sem.run_bind,show (load (a.add i)).run P w=.ok v w from h 0 v rfl,Result.andThen_ok,z7 cs (i+1) (acc.push v) fun j u hj=>by
    have:=h (j+1) u (by simpa using hj);rwa [show i+(j+1)=i+1+j by omega] at this]
   simp
section
variable{P:Program}{E:Env}(hE:ch P E){α:Type}{R:aH}{ty size:Nat}{a:Addr}{enc:α->List Value}{l:List α}(h:kn P R ty size a (fun x=>.agg (enc x).toArray) l)(j7:∃r,E.ty ty=some r/\bG r.bg=true){i j:Nat}(hi:i<l.length)
include hE h j7
theorem kn.cell{u:Value}(hu:(enc l[i])[j]?=some u)(w:World)(S:Nat->Prop)(hw:R.at_ w S):(load ((a.add (i * size)).add j)).run P w=.ok u w:=by
 obtain ⟨r,hr,lk⟩:=j7;have h1:=h w S hw i hi;unfold loadVar at h1;rw[Sem.run_bind,pQ hE hr w,lk] at h1;simp only[Result.andThen_ok,if_true,Sem.run_bind,bT hE hr w] at h1;unfold loadCells at h1;cases hl:(loadCellsFrom (a.add (i * size)) 0 r.info.size #[]).run P w with
 | ok cs w'=>
   rw[hl] at h1;simp only[Result.andThen_ok,Sem.run_pure,Result.ok.injEq,Value.agg.injEq] at h1;obtain ⟨y6,e1,e2⟩:=z6 _ _ _ _ _ hl;have e3:y6=enc l[i]:=by
    have:=congrArg Array.toList h1.1;rw[e1] at this;simpa using this
   rw[<-e3] at hu;have:=e2 j u hu;rwa [Nat.zero_add] at this
 | _=>rw[hl] at h1;simp[Result.andThen] at h1
theorem kn.jx{ty2:Nat}{u:Value}(h2:∃r,E.ty ty2=some r/\bG r.bg=false)(hu:(enc l[i])[j]?=some u)(w:World)(S:Nat->Prop)(hw:R.at_ w S):(loadVar ty2 ((a.add (i * size)).add j)).run P w=.ok u w:=by
 obtain ⟨r,hr,lk⟩:=h2;have hc:=kn.cell hE h j7 hi hu w S hw;unfold loadVar;rw[Sem.run_bind,pQ hE hr w,lk];simp only[Result.andThen_ok,Bool.false_eq_true,if_false,hc]
theorem kn.yw{ty2 n2:Nat}{cs:List Value}(h2:∃r,E.ty ty2=some r/\r.info.size=n2/\bG r.bg=true)(hn:n2=cs.length)(hu:((enc l[i]).drop j).take n2=cs)(w:World)(S:Nat->Prop)(hw:R.at_ w S):(loadVar ty2 ((a.add (i * size)).add j)).run P w=.ok (.agg cs.toArray) w:=by
 obtain ⟨r,hr,hs,lk⟩:=h2;have hl:(loadCells ((a.add (i * size)).add j) cs.length).run P w=.ok cs.toArray w:=by
  unfold loadCells;rw[z7 cs 0 #[] fun q v hv=>by
   rw[Nat.zero_add,add_add];have:(enc l[i])[j+q]?=some v:=by
    rw[<-hu,List.getElem?_take,List.getElem?_drop] at hv;split at hv
    ·exact hv
    ·cases hv
   have:=kn.cell hE h j7 hi this w S hw;rwa [add_add]  at this ⊢]
  simp
 unfold loadVar;rw[Sem.run_bind,pQ hE hr w,lk];simp only[Result.andThen_ok,if_true,Sem.run_bind,bT hE hr w,hs,hn,hl,Sem.run_pure]
end
theorem ai.EW{P:Program}{E:Env}(hE:ch P E){S:List Nat}{t:ax}{H:List af}{K:AV->List af->Prop}{ty elem:TypeId}{r er:cZ}{x i:Operand}{a:Addr}{n k c:Nat}{z:Int}(hr:E.ty ty=some r)(hu:r.bg=.slice elem)(he:E.ty elem=some er)(hx:aE t x=some (.lit (.slice (some a) n c)))(hi:aE t i=some (.lit (.int .i64 z)))(hz:z=(k:Int))(hk:k<n)(h:K (.lit (.pointer (some (a.add (k * er.info.size))))) H):ai E P true S t H (.indexAddr ty x i) K:=by
 subst hz;exact ai.bJ hE hr hu he hx hi hk h
theorem ai.It{P:Program}{E:Env}(hE:ch P E){S:List Nat}{t:ax}{H:List af}{K:AV->List af->Prop}{ty elem:TypeId}{r er:cZ}{x hi:Operand}{A:Option Addr}{n c j:Nat}{q:IntKind}{z:Int}(hr:E.ty ty=some r)(hu:r.bg=.slice elem)(he:E.ty elem=some er)(hx:aE t x=some (.lit (.slice A n c)))(hh:aE t hi=some (.lit (.int q z)))(hz:z=(j:Int))(hj:j<=c)(h:K (.lit (.slice A j c)) H):ai E P true S t H (.slice ty x none (some hi) none) K:=
 ⟨.inr ⟨rfl,⟨fun F γ w ρ hR cx cJ bD o ho=>by
  subst hz;have h1:=bD x _ (by simp[Op.operands]) hx;have h2:=bD hi _ (by simp[Op.operands]) hh;rw[al] at h1 h2;refine ⟨_,H,γ,.value (.slice A j c),w,?_,.inl ⟨_,rfl,aM γ _⟩,h,hR,.refl γ _,cx,cJ⟩;obtain ⟨dst,op,type,pos,after,guard⟩:=o;simp only[] at ho;subst ho;simp only[execOp];refine dh ?_;simp only[Option.map_some,Option.map_none,h1,h2];have hb:(0:Int)<=(j:Int)/\(j:Int)<=(c:Int):=⟨by omega,by omega⟩;have iW:(sizeOf elem).run P w=.ok er.info.size w:=bT hE he w;have rk:(underlying ty).run P w=.ok (.slice elem) w:=by rw[ba hE hr w,hu]
  unfold Instr.sliceAt;simp only[Sem.run_bind,rk,Result.andThen_ok];unfold Instr.slice;simp only[Instr.sliceBounds,Instr.sliceBound,asIntOf,Sem.run_bind,rk,Result.andThen_ok,Sem.run_pure,if_true,hb,and_self,Int.toNat_natCast,iW,Nat.zero_mul,Option.map_some,Nat.sub_zero,Addr.add_mid,Nat.add_zero,ite_self];rw[show A.map (fun x=>x.add 0)=A by cases A<;>rfl,ite_self]⟩⟩⟩
theorem ag.OA{P:Program}{S:List Nat}{f:Nat}{args:List AV}{H:List af}{K' K:AV->List af->Prop}(c:ag P S f args H K')
  (hk:∀v H',K' v H'->K v H'\/∃o w,v=.tuple [.slice o 0 0 (.k 0),w]/\∀a,K (.tuple [.lit (.slice (some a) 0 0),w]) H'):ag P S f args H K:=⟨fun F γ w ys hR cx cJ rm=>by
 obtain ⟨c1,c2⟩:=c.out F γ w ys hR cx cJ rm;refine ⟨c1,fun R fj=>c2 R fun v H' aq x w' k1 k2 k3=>?_⟩;rcases hk v H' k1 with h|⟨o,u,rfl,h⟩
 ·exact fj v H' aq x w' h k2 k3
 ·obtain ⟨a,rfl,y,ys,h1,h2,h3⟩:=k2;obtain ⟨ad,c,rfl,_,_,rfl⟩:=h2;exact fj _ H' aq _ w' (h ad) ⟨a,rfl,_,ys,h1,aM aq _,h3⟩ k3⟩
abbrev kl(a:AV)(H1:List af):AV->List af->Prop:=fun v H'=>v=a/\∃G,H'=H1++G
theorem ag.g{P:Program}{S:List Nat}{f:Nat}{args0 args:List AV}{H0 H H1:List af}{a:AV}{K:AV->List af->Prop}(c:nJ P f args0 H0 (kl a H1))(ρ:List Nat)(gR:args=AV.ff (ef ρ) args0)(lp:(eg ρ&&Nat.ble H0.length aU&&ρ.all (fun i=>!n8 S i))=true)(pa:nL (ef ρ) H ρ H0)
  (hK:∀G,D6 ρ [] H (H1++G) a K):ag P S f args H K:=c.use ρ gR lp pa (by
 rintro _ _ ⟨rfl,G,rfl⟩;exact ⟨[],hK G⟩)
end Go.Proofs.YtmbdghclhpboaaaGreat.Ev
namespace Go.Proofs.YtmbdghclhpboaaaGreat
open Ev
abbrev cU(l:List UInt8):Value:=.string ⟨l.toArray⟩
abbrev X3:TypeId:=417
abbrev Ua(F:Nat):AV:=.lit (.func (.func F) #[] #[])
def oq(s:List UInt8)(p:Pt):af:=.cells [.lit (cU s),iA p.i,iA p.line,iA p.aS] X3
theorem RI{s:List UInt8}{p:Pt}{i l c:Int}(hi:i=(p.i:Int))(hl:l=(p.line:Int))(hc:c=(p.aS:Int)):af.cells [.lit (cU s),iA i,iA l,iA c] X3=oq s p:=by
 subst hi hl hc;rfl
abbrev rD(F:Nat)(pr:UInt8->Bool):Prop:=∀{S:List Nat} {H:List af} {K:AV->List af->Prop} (c:UInt8),K (bA (pr c)) H->CP S F [.lit (.int .u8 (c.toNat:Int))] H K
theorem Br:rD 396 isLet:=fun c k=>by
 refine ag.pure ?_ (fun _=>rfl) (fun _=>rfl) k;refine ae U rfl ?_;repeat' ((conv=>whnf);with_reducible apply aa<;>intro _)
 all_goals
  refine bh ?_
  simp_all [isLet]
 all_goals omega
theorem E4:rD 398 bV:=fun c k=>by
 refine ag.pure ?_ (fun _=>rfl) (fun _=>rfl) k;refine ae U rfl ?_;repeat' ((conv=>whnf);with_reducible apply aa<;>intro _)
 all_goals
  refine bh ?_
  simp_all [bV]
 all_goals omega
theorem KR:rD 473 cQ:=fun c k=>by
 refine ag.pure ?_ (fun _=>rfl) (fun _=>rfl) k;unfold cQ;cases hl:isLet c<;>cases hd:bV c
 all_goals
  refine ae U rfl ?_
  repeat' ((conv=>whnf);first|(refine Br c ?_;rw[hl])|(refine E4 c ?_;rw[hd])|with_reducible apply aa<;>intro _)
  all_goals
   refine bh ?_
   simp_all
 all_goals omega
theorem Rm:rD 391 dG:=fun c k=>by
 refine ag.pure ?_ (fun _=>rfl) (fun _=>rfl) k;refine ae U rfl ?_;repeat' ((conv=>whnf);with_reducible apply aa<;>intro _)
 all_goals
  refine bh ?_
  simp_all [dG]
 all_goals omega
theorem Vq:rD 393 fF:=fun c k=>by
 refine ag.pure ?_ (fun _=>rfl) (fun _=>rfl) k;refine ae U rfl ?_;repeat' ((conv=>whnf);with_reducible apply aa<;>intro _)
 all_goals
  refine bh ?_
  simp_all [fF]
 all_goals omega
theorem Ro:rD 394 gj:=fun c k=>by
 refine ag.pure ?_ (fun _=>rfl) (fun _=>rfl) k;refine ae U rfl ?_;repeat' ((conv=>whnf);with_reducible apply aa<;>intro _)
 all_goals
  refine bh ?_
  simp_all [gj]
 all_goals omega
theorem XO:rD 301 (fun _=>true):=fun c k=>by
 refine ag.pure ?_ (fun _=>rfl) (fun _=>rfl) k;refine ae U rfl ?_;repeat' ((conv=>whnf);with_reducible apply aa<;>intro _)
 all_goals rfl
theorem EY{F:Nat}{pr:UInt8->Bool}(hF:rD F pr){s:List UInt8}{p:Pt}:CP [] 392 [.ptr 0 0,Ua F] [oq s p] (kl (bA (iu pr (s.drop p.i))) [oq s p]):=by
 by_cases h:p.i<s.length
 ·have e:iu pr (s.drop p.i)=pr s[p.i]:=by rw[List.drop_eq_getElem_cons h];rfl
  rw[e];refine ae U rfl ?_;repeat' ((conv=>whnf);first|with_reducible apply aa<;>intro _|refine aJ.drawn U rfl rfl ?_|with_reducible refine And.intro (aG.mk ⟨_,rfl,rfl⟩) ?_|refine ai.ej rfl rfl rfl rfl rfl h ?_|refine hF _ ?_|(exfalso;rename_i hx;exact ck h hx)|refine ae U rfl ?_)
  all_goals (try conv=>whnf)
  all_goals first|exact ⟨congrArg bA (Eq.symm (by assumption)),_,rfl⟩|exact ck h (by assumption)
 ·have e:iu pr (s.drop p.i)=false:=by rw[List.drop_of_length_le (by omega)];rfl
  rw[e];refine ae U rfl ?_;repeat' ((conv=>whnf);first|with_reducible apply aa<;>intro _|refine aJ.drawn U rfl rfl ?_|with_reducible refine And.intro (aG.mk ⟨_,rfl,rfl⟩) ?_|(exfalso;rename_i hx;exact cI h hx)|refine ae U rfl ?_)
  all_goals (try conv=>whnf)
  all_goals exact ⟨rfl,_,rfl⟩
theorem Jz{s:List UInt8}{p:Pt}(h:p.i<s.length)(hl:s.length<=1000000)(hp:p.low):CP [] 400 [.ptr 0 0] [oq s p] (kl aP [oq s (p.step s[p.i])]):=by
 obtain ⟨h1,h2⟩:=hp;refine ae U rfl ?_;repeat' ((conv=>whnf);first|with_reducible apply aa<;>intro _|refine aJ.drawn U rfl rfl ?_|with_reducible refine And.intro (aG.mk ⟨_,rfl,rfl⟩) ?_|refine ai.ej rfl rfl rfl rfl rfl h ?_|refine ae U rfl ?_)
 all_goals (try conv=>whnf)
 all_goals
  rename_i hx
  simp only[beq_iff_eq,beq_eq_false_iff_ne,ne_eq] at hx
  refine ⟨rfl,[],congrArg (·::[]) (RI ?_ ?_ ?_)⟩
  all_goals unfold Pt.step;simp only[]
  all_goals (try rw[aj (by omega) (by omega)])
 all_goals first|omega|(split<;>omega)
theorem wC{F:Nat}{pr:UInt8->Bool}(hF:rD F pr){s:List UInt8}{p:Pt}(hi:p.i<=s.length)(hl:s.length<=1000000)(hp:p.low):CP [] 300 [.ptr 0 0,Ua F] [oq s p] (kl (.lit (cU ((s.drop p.i).takeWhile pr))) [oq s (p.ju ((s.drop p.i).takeWhile pr))]):=by
 obtain ⟨m,hm⟩:∃m,m=(s.drop p.i).takeWhile pr:=⟨_,rfl⟩;have sc:m.length<=s.length - p.i:=by
  have:=en pr (s.drop p.i);rw[<-hm,List.length_drop] at this;exact this
 have LR:m=(s.drop p.i).take m.length:=by conv=>lhs;rw[hm,pS,<-hm]
 have hcut:(s.take (p.i+m.length)).drop p.i=m:=by
  conv=>rhs;rw[LR]
  rw[List.drop_take,Nat.add_sub_cancel_left]
 rw[<-hm];refine ae U rfl ?_;conv=>whnf
 refine aW U rfl (fun k=>[(0,.ptr 0 0),(1,Ua F),(5,iA p.i)]) (fun k=>[oq s (p.ju (m.take k))]) (·<=m.length) (fun k=>m.length - k) 0 (Nat.zero_le _) [0] ?_ ?_
 ·exact ⟨rfl,⟨rr,rr,rr,tU⟩,⟨⟨_,rfl,rfl⟩,tU⟩⟩
 ·intro k hk;have Zc:(m.take k).length=k:=by rw[List.length_take];omega
  obtain ⟨q,hq⟩:∃q,q=p.ju (m.take k):=⟨_,rfl⟩;have Jo:q.i=p.i+k:=by rw[hq,Pt.uB,Zc]
  have Cs:q.low:=by rw[hq];exact Pt.n7 _ hp
  have hd:s.drop q.i=(s.drop p.i).drop k:=by rw[Jo,List.drop_drop]
  have h1:=EY hF (s:=s) (p:=q);simp only[];rw[<-hq];by_cases eZ:k<m.length
  ·have hb:iu pr (s.drop q.i)=true:=by rw[hd];exact Ke pr _ k (by rw[<-hm];exact eZ)
   have ah:q.i<s.length:=by omega
   have he:q.step s[q.i]=p.ju (m.take (k+1)):=by
    rw[bf eZ,Pt.vH,<-hq];have:s[q.i]=m[k]:=by
     have e1:m[k]?=s[q.i]?:=by rw[LR,List.getElem?_take_of_lt eZ,List.getElem?_drop,Jo]
     rw[List.getElem?_eq_getElem eZ,List.getElem?_eq_getElem ah] at e1;exact (Option.some.inj e1).symm
    rw[this];rfl
   have h2:=Jz ah hl Cs;rw[he] at h2;rw[hb] at h1;clear he;repeat' ((conv=>whnf);first|with_reducible apply aa<;>intro _|refine aJ.drawn U rfl rfl ?_|with_reducible refine And.intro (aG.mk ⟨_,rfl,rfl⟩) ?_|refine h1.g [0] rfl rfl ⟨⟨_,rfl,rfl⟩,tU⟩ fun G=>?_|refine h2.g [0] rfl rfl ⟨⟨_,rfl,rfl⟩,tU⟩ fun G=>?_|refine ae U rfl ?_)
   all_goals (try conv=>whnf)
   exact ⟨k+1,[0],⟨eZ,by omega⟩,rfl,⟨rr,rr,rr,tU⟩,⟨⟨_,rfl,rfl⟩,tU⟩⟩
  ·obtain rfl:k=m.length:=by omega
   rw[List.take_length] at hq;have hb:iu pr (s.drop q.i)=false:=by
    rw[hd,hm];exact zK pr _
   rw[hb] at h1;rw[<-hq];repeat' ((conv=>whnf);first|with_reducible apply aa<;>intro _|refine aJ.drawn U rfl rfl ?_|with_reducible refine And.intro (aG.mk ⟨_,rfl,rfl⟩) ?_|refine h1.g [0] rfl rfl ⟨⟨_,rfl,rfl⟩,tU⟩ fun G=>?_|(refine ai.xZ rfl rfl rfl rfl rfl rfl (congrArg Int.ofNat Jo) (by omega) (by omega) ?_;rw[hcut])|refine ae U rfl ?_)
   all_goals (try conv=>whnf)
   exact ⟨rfl,_,rfl⟩
theorem Lb:∀(l:List UInt8),l.takeWhile (fun _=>true)=l
 | []=>rfl
 | c::l=>congrArg (c::·) (Lb l)
theorem EZ{s:List UInt8}{p:Pt}:CP [] 297 [.ptr 0 0] [oq s p] (kl (.agg [iA p.line,iA p.aS]) [oq s p]):=by
 refine ae U rfl ?_;repeat' ((conv=>whnf);first|with_reducible apply aa<;>intro _|refine aJ.drawn U rfl rfl ?_|with_reducible refine And.intro (aG.mk ⟨_,rfl,rfl⟩) ?_ )
 all_goals (try conv=>whnf)
 exact ⟨rfl,_,rfl⟩
theorem EX{s:List UInt8}:CP [] 296 [.lit (cU s)] [] (kl (.ptr 0 0) [oq s Pt.zero]):=by
 refine ae U rfl ?_;repeat' ((conv=>whnf);with_reducible apply aa<;>intro _)
 all_goals (try conv=>whnf)
 exact ⟨rfl,_,rfl⟩
theorem XR{s:List UInt8}{S:List Nat}{H:List af}{K:AV->List af->Prop}(hs:s.length<=1000000)(k:K (.agg [iA (jV s).line,iA (jV s).aS]) H):CP S 218 [.lit (cU s)] H K:=by
 refine ag.pure ?_ (fun _=>rfl) (fun _=>rfl) k;have h2:=wC XO (s:=s) (p:=Pt.zero) (Nat.zero_le _) hs Pt.xH;have h3:=EZ (s:=s) (p:=jV s);have e:(s.drop Pt.zero.i).takeWhile (fun _=>true)=s:=by
  exact Lb s
 rw[e] at h2;change CP [] _ _ _ (kl _ [oq s (jV s)]) at h2;obtain ⟨q,hq⟩:∃q,q=jV s:=⟨_,rfl⟩;rw[<-hq] at h2 h3 ⊢;clear e;refine ae U rfl ?_;repeat' ((conv=>whnf);first|with_reducible apply aa<;>intro _|refine (EX (s:=s)).use [] rfl rfl trivial ?_;rintro _ _ ⟨rfl,G,rfl⟩;refine ⟨[0],?_⟩|refine h2.g [1] rfl rfl ⟨⟨_,rfl,rfl⟩,tU⟩ fun G=>?_|refine h3.g [1] rfl rfl ⟨⟨_,rfl,rfl⟩,tU⟩ fun G=>?_|refine ae U rfl ?_)
 all_goals (try conv=>whnf)
 all_goals rfl
theorem Vo{s:List UInt8}{p:Pt}(hi:p.i<=s.length)(hl:s.length<=1000000)(hp:p.low):CP [] 298 [.ptr 0 0] [oq s p] (kl aP [oq s (p.ju ((s.drop p.i).take (dW (s.drop p.i))))]):=by
 obtain ⟨tg,ES⟩:∃tg,tg=p.ju ((s.drop p.i).take (dW (s.drop p.i))):=⟨_,rfl⟩;rw[<-ES];refine ae U rfl ?_;conv=>whnf
 refine aW U rfl (fun _=>[(0,.ptr 0 0)]) (fun q=>[oq s q]) (fun q=>q.i<=s.length/\q.low/\q.ju ((s.drop q.i).take (dW (s.drop q.i)))=tg) (fun q=>s.length - q.i) p ⟨hi,hp,ES.symm⟩ [0] ?_ ?_
 ·exact ⟨rfl,⟨rr,tU⟩,⟨⟨_,rfl,rfl⟩,tU⟩⟩
 ·rintro q ⟨kY,nW,GX⟩;obtain ⟨l,kW⟩:∃l,l=s.drop q.i:=⟨_,rfl⟩;have o9:l.length=s.length - q.i:=by rw[kW,List.length_drop]
  have h1:=wC Rm kY hl nW;rw[<-kW] at GX h1;obtain ⟨a,ha⟩:∃a,a=l.takeWhile dG:=⟨_,rfl⟩;have ZY:a.length<=l.length:=by rw[ha];exact en _ _
  have dj:l.take a.length=a:=by rw[ha];exact (pS dG l).symm
  rw[<-ha] at h1;obtain ⟨q1,AP⟩:∃q1,q1=q.ju a:=⟨_,rfl⟩;have Xu:q1.i=q.i+a.length:=by rw[AP,Pt.uB]
  have SS:q1.low:=by rw[AP];exact Pt.n7 _ nW
  have o6:s.drop q1.i=l.drop a.length:=by rw[Xu,kW,List.drop_drop]
  rw[<-AP] at h1;have h2:=EY Vq (s:=s) (p:=q1);rw[o6] at h2;have zc:=DP l;rw[<-ha] at zc;have h3:=wC Ro (s:=s) (p:=q1) (by omega) hl SS;rw[o6] at h3;obtain ⟨l2,gd⟩:∃l2,l2=l.drop a.length:=⟨_,rfl⟩;rw[<-gd] at h2 h3 zc o6;have ZL:l2.length=l.length - a.length:=by rw[gd,List.length_drop]
  obtain ⟨b,hb⟩:∃b,b=l2.takeWhile gj:=⟨_,rfl⟩;have AF:b.length<=l2.length:=by rw[hb];exact en _ _
  have YV:l2.take b.length=b:=by rw[hb];exact (pS gj l2).symm
  have WO:iu fF l2=true->0<b.length:=fun h=>by rw[hb];exact oT _ h
  rw[<-hb] at h3 zc;obtain ⟨q2,De⟩:∃q2,q2=q1.ju b:=⟨_,rfl⟩;have Xv:q2.i=q1.i+b.length:=by rw[De,Pt.uB]
  have Xw:q2.low:=by rw[De];exact Pt.n7 _ SS
  rw[<-De] at h3;have Co:s.drop q2.i=l2.drop b.length:=by rw[Xv,<-o6,List.drop_drop]
  clear ha hb;cases hc:iu fF l2 with
  | true=>
    rw[hc] at h2;have WO:=WO hc;rw[hc,if_pos rfl] at zc;have ht:q2.ju ((s.drop q2.i).take (dW (s.drop q2.i)))=tg:=by
     rw[Co,<-GX,zc,Nat.add_assoc,List.take_add,dj,<-gd,List.take_add,YV,Pt.vH,Pt.vH,<-AP,<-De]
    clear o6 Co kW gd AP De GX ES;repeat' ((conv=>whnf);first|with_reducible apply aa<;>intro _|refine h1.g [0] rfl rfl ⟨⟨_,rfl,rfl⟩,tU⟩ fun G=>?_|refine h2.g [0] rfl rfl ⟨⟨_,rfl,rfl⟩,tU⟩ fun G=>?_|refine h3.g [0] rfl rfl ⟨⟨_,rfl,rfl⟩,tU⟩ fun G=>?_|refine ae U rfl ?_)
    all_goals (try conv=>whnf)
    exact ⟨q2,[0],⟨⟨by omega,Xw,ht⟩,by omega⟩,rfl,⟨rr,tU⟩,⟨⟨_,rfl,rfl⟩,tU⟩⟩
  | false=>
    rw[hc] at h2;rw[hc,if_neg (by simp)] at zc;have ht:q1=tg:=by rw[<-GX,zc,dj,<-AP]
    rw[ht] at h1 h2;clear o6 Co kW gd AP De GX ES;repeat' ((conv=>whnf);first|with_reducible apply aa<;>intro _|refine h1.g [0] rfl rfl ⟨⟨_,rfl,rfl⟩,tU⟩ fun G=>?_|refine h2.g [0] rfl rfl ⟨⟨_,rfl,rfl⟩,tU⟩ fun G=>?_|refine ae U rfl ?_)
    all_goals (try conv=>whnf)
    exact ⟨rfl,_,rfl⟩
theorem oz{a b:List UInt8}:((⟨a.toArray⟩:ByteArray).toList==(⟨b.toArray⟩:ByteArray).toList)=decide (a=b):=by
 rw[Bool.eq_iff_iff,beq_iff_eq,decide_eq_true_iff];simp[ByteArray.toList_eq]
theorem PY{s:List UInt8}{S:List Nat}{H:List af}{K:AV->List af->Prop}(k:K (bA (isWord s)) H):CP S 474 [.lit (cU s)] H K:=by
 refine ag.pure ?_ (fun _=>rfl) (fun _=>rfl) k;refine ae U rfl ?_;repeat' ((conv=>whnf);first|with_reducible apply aa<;>intro _|refine aW U rfl (fun k=>[(0,.lit (cU s)),(3,bA false),(6,.agg (vD.map fun w=>.lit (cU w))),(7,iA (k:Nat))]) (fun _=>[]) (fun k=>k<=11/\isWord s=(vD.drop k).any (fun w=>decide (s=w))) (fun k=>11 - k) 0 ⟨Nat.zero_le _,rfl⟩ [] ?_ ?_|refine ae U rfl ?_)
 ·exact ⟨rfl,⟨rr,rr,rr,rr,tU⟩,tU⟩
 ·rintro k ⟨hk,he⟩;have hk:k=0\/k=1\/k=2\/k=3\/k=4\/k=5\/k=6\/k=7\/k=8\/k=9\/k=10\/k=11:=by omega
  obtain ⟨b,hb⟩:∃b,b=isWord s:=⟨_,rfl⟩;rw[<-hb] at he ⊢;rcases hk with rfl|rfl|rfl|rfl|rfl|rfl|rfl|rfl|rfl|rfl|rfl|rfl;all_goals repeat' ((conv=>whnf);first|with_reducible apply aa<;>intro _  | refine ae U rfl ?_)
  all_goals (try conv=>whnf)
  all_goals first
   | exact bh he.symm
   | (rename_i hx;rw[oz] at hx;exact bh (by rw[he];show _=(decide (s=_) || _);rw[hx];rfl))
   | (rename_i hx;rw[oz] at hx;exact ⟨_,[],⟨⟨by decide,by rw[he];show (decide (s=_) || _)=_;rw[hx];rfl⟩,by decide⟩,rfl,⟨rr,rr,rr,rr,tU⟩,tU⟩)
def oH(t:Tk):List Value:=[.int .i64 (t.kind:Int),cU t.text,.int .i64 (t.n:Int),.int .i64 (t.line:Int),.int .i64 (t.aS:Int)]
abbrev ow:TypeId:=265
abbrev D1(t:Tk):List AV:=(oH t).map .lit
theorem sU(t:Tk):(oH t).length=5:=rfl
theorem vd(s:List UInt8)(c:UInt8):qZ (s++[c])=min 65536 (10 * qZ s+(c.toNat - 48)):=by
 unfold qZ;rw[List.foldl_append];rfl
theorem OI(s:List UInt8):qZ s<=65536:=by
 rcases List.eq_nil_or_concat s with rfl|⟨l,c,rfl⟩
 ·simp[qZ]
 ·rw[List.concat_eq_append,vd];omega
theorem L5{n:Nat}{c:UInt8}(hn:n<=65536)(hc:bV c=true):(if IntKind.i64.wrap (IntKind.i64.wrap (10 * (n:Int))+IntKind.i64.wrap (IntKind.u8.wrap ((c.toNat:Int) - 48)))<65536 then IntKind.i64.wrap (IntKind.i64.wrap (10 * (n:Int))+IntKind.i64.wrap (IntKind.u8.wrap ((c.toNat:Int) - 48))) else 65536)=((min 65536 (10 * n+(c.toNat - 48)):Nat):Int):=by
 unfold bV at hc;have hc:=of_decide_eq_true hc;rw[IntWalk.u8_in _ (by omega),aj (n:=(c.toNat:Int) - 48) (by omega) (by omega),aj (n:=10 * (n:Int)) (by omega) (by omega),aj (by omega) (by omega)];split<;>omega
theorem PT{s:List UInt8}(hd:∀c∈s,bV c=true)(hl:s.length<=1000000){S:List Nat}{H:List af}{K:AV->List af->Prop}(k:K (.tuple [iA (kO s).1,bA (kO s).2]) H):CP S 475 [.lit (cU s)] H K:=by
 refine ag.pure ?_ (fun _=>rfl) (fun _=>rfl) k;have hh:∀h:0<s.length,s.headD 0=s[0]:=fun h=>by
  cases s with
  | nil=>simp at h
  | cons c r=>rfl
 by_cases h0:1<s.length/\s.headD 0=48
 ·have e:kO s=(0,false):=by unfold kO;rw[if_pos h0]
  rw[e];obtain ⟨h1,h2⟩:=h0;have h3:0<s.length:=by omega
  rw[hh h3] at h2;refine ae U rfl ?_;repeat' ((conv=>whnf);first|with_reducible apply aa<;>intro _|(refine ai.ej (k:=0) rfl rfl rfl rfl rfl h3 ?_;rw[h2])|(exfalso;rename_i hx;exact ck h1 hx)|refine ae U rfl ?_)
  all_goals (try conv=>whnf)
  all_goals rfl
 ·have e:kO s=(qZ s,decide (qZ s<=65535)):=by unfold kO;rw[if_neg h0]
  rw[e];clear e k;refine ae U rfl ?_;repeat' ((conv=>whnf);first|with_reducible apply aa<;>intro _|(rename_i hx;have h1:1<s.length:=Int.ofNat_lt.1 (of_decide_eq_true hx);refine ai.ej (k:=0) rfl rfl rfl rfl rfl (by omega) ?_)|(refine aW U rfl (fun k=>[(0,.lit (cU s)),(4,iA (qZ (s.take k))),(15,iA s.length),(16,iA (k:Nat))]) (fun _=>[]) (·<=s.length) (fun k=>s.length - k) 0 (Nat.zero_le _) [] ⟨rfl,⟨rr,rr,rr,rr,tU⟩,tU⟩ ?_;intro k hk;by_cases eZ:k<s.length)|refine ai.ej rfl rfl rfl rfl rfl eZ ?_|refine ae U rfl ?_)
  all_goals (try conv=>whnf)
  all_goals first
   | (exfalso;rename_i hy;refine h0 ⟨by assumption,?_⟩;rw[hh (by omega)];exact UInt8.toNat_inj.1 (Int.ofNat.inj (eq_of_beq hy)))
   | exact ⟨_,[],⟨eZ,Nat.sub_lt_sub_left eZ (Nat.lt_succ_self _)⟩,rfl,⟨rr,⟨rfl,aw rfl (by rw[L5 (OI _) (hd _ (List.getElem_mem eZ)),<-vd,<-bf eZ])⟩,⟨rfl,rfl⟩,⟨rfl,aw rfl (aj (by omega) (by omega))⟩,tU⟩,tU⟩
   | (exfalso;exact ck eZ (by assumption))
   | (exfalso;exact cI eZ (by assumption))
   | (rename_i hx;rw[List.take_of_length_le (by omega)] at hx ⊢;refine congrArg (fun b=>AV.tuple [iA (qZ s),bA b]) ?_;rw[<-hx];exact decide_eq_decide.2 (by omega))
theorem Fx(pr:UInt8->Bool):∀(l:List UInt8),∀c∈l.takeWhile pr,pr c=true
 | [],c,h=>by cases h
 | a::l,c,h=>by
   rw[List.takeWhile_cons] at h;split at h
   ·rcases List.mem_cons.1 h with rfl|h
    ·assumption
    ·exact Fx pr l c h
   ·cases h
theorem Rb{l:List UInt8}{i:Nat}(h:i<l.length)(hl:l.length<=1000000)(hx:(IntKind.i64.wrap ((i:Int)+1)==(l.length:Int))=false):i+1<l.length:=by
 rw[aj (by omega) (by omega),beq_eq_false_iff_ne] at hx;omega
theorem Ra{l:List UInt8}{i:Nat}{X:Prop}(h:i+1<l.length)(hl:l.length<=1000000)(hx:(IntKind.i64.wrap ((i:Int)+1)==(l.length:Int))=true):X:=by
 rw[aj (by omega) (by omega),beq_iff_eq] at hx;omega
def D8(s:List UInt8)(p:Pt):AV->List af->Prop:=fun v H'=>v=.tuple [.agg (D1 (b9 (s.drop p.i)).1),iA (b9 (s.drop p.i)).2]/\∃q G,((b9 (s.drop p.i)).2=0->q=p.ju ((s.drop p.i).take (b9 (s.drop p.i)).1.text.length))/\H'=oq s q::G
section
variable{s:List UInt8}{p:Pt}(h:p.i<s.length)(hl:s.length<=1000000)(hp:p.low)
include h hl hp
theorem Vl(hc:isLet s[p.i]=true):CP [] 397 [.ptr 0 0] [oq s p] (D8 s p):=by
 have h1:=wC KR (s:=s) (p:=p) (by omega) hl hp;have e:b9 (s.drop p.i)=(⟨if isWord ((s.drop p.i).takeWhile cQ) then 2 else 1,(s.drop p.i).takeWhile cQ,0,0,0⟩,if 16<((s.drop p.i).takeWhile cQ).length then 2 else 0):=by
  rw[List.drop_eq_getElem_cons h];unfold b9;simp only[hc,if_true]
 have e2:=pS cQ (s.drop p.i);unfold D8;rw[e];simp only[];rw[<-e2];obtain ⟨w,hw⟩:∃w,w=(s.drop p.i).takeWhile cQ:=⟨_,rfl⟩;rw[<-hw] at h1 ⊢;clear e e2 hw;by_cases y8:16<w.length<;>cases hb:isWord w;all_goals first|rw[if_pos y8]|rw[if_neg y8]
 all_goals
  refine ae U rfl ?_
  repeat' ((conv=>whnf);first|with_reducible apply aa<;>intro _|refine h1.g [0] rfl rfl ⟨⟨_,rfl,rfl⟩,tU⟩ fun G=>?_|(refine PY ?_;rw[hb])|(exfalso;first|exact ck y8 (by assumption)|exact cI y8 (by assumption))|refine ae U rfl ?_)
  all_goals (try conv=>whnf)
  all_goals first
   | exact ⟨rfl,_,_,fun _=>rfl,rfl⟩
   | (exfalso;rename_i hx;have:=of_decide_eq_true hx;omega)
   | (exfalso;rename_i hx;have:=of_decide_eq_false hx;omega)
theorem ldigits(hc:isLet s[p.i]=false)(hd:bV s[p.i]=true):CP [] 399 [.ptr 0 0] [oq s p] (D8 s p):=by
 have h1:=wC E4 (s:=s) (p:=p) (by omega) hl hp;have e:b9 (s.drop p.i)=if (kO ((s.drop p.i).takeWhile bV)).2 then (⟨3,(s.drop p.i).takeWhile bV,(kO ((s.drop p.i).takeWhile bV)).1,0,0⟩,0) else (⟨3,(s.drop p.i).takeWhile bV,0,0,0⟩,10):=by
  rw[List.drop_eq_getElem_cons h];unfold b9;simp only[hc,hd,if_true,Bool.false_eq_true,if_false]
 have e2:=pS bV (s.drop p.i);have e3:=en bV (s.drop p.i);have e4:∀c∈(s.drop p.i).takeWhile bV,bV c=true:=Fx bV _;rw[List.length_drop] at e3;unfold D8;rw[e];obtain ⟨w,hw⟩:∃w,w=(s.drop p.i).takeWhile bV:=⟨_,rfl⟩;rw[<-hw] at h1 e2 e3 e4 ⊢;have h2:=@PT w e4 (by omega);clear e hw;cases hb:(kO w).2
 all_goals
  simp only[if_true,Bool.false_eq_true,if_false]
  rw[hb] at h2
  try rw[<-e2]
  clear e2
  refine ae U rfl ?_
  repeat' ((conv=>whnf);first|with_reducible apply aa<;>intro _|refine h1.g [0] rfl rfl ⟨⟨_,rfl,rfl⟩,tU⟩ fun G=>?_|refine h2 ?_|refine ae U rfl ?_)
  all_goals (try conv=>whnf)
  all_goals first
   | exact ⟨rfl,_,_,fun _=>rfl,rfl⟩
   | exact ⟨rfl,_,_,fun h=>(nomatch h),rfl⟩
theorem Vk(hc:isLet s[p.i]=false)(hd:bV s[p.i]=false):CP [] 395 [.ptr 0 0] [oq s p] (D8 s p):=by
 obtain ⟨r,hr⟩:∃r,r=s.drop (p.i+1):=⟨_,rfl⟩;have e:b9 (s.drop p.i)=if s[p.i].toNat=61\/s[p.i].toNat=43\/s[p.i].toNat=59 then (⟨4,[s[p.i]],0,0,0⟩,0) else if s[p.i].toNat=46/\r.head?=some 46 then (⟨4,[46,46],0,0,0⟩,0) else (Tk.none,30):=by
  rw[List.drop_eq_getElem_cons h,<-hr];unfold b9;simp only[hc,hd,Bool.false_eq_true,if_false]
 have h1:=Jz h hl hp;unfold D8;rw[e];by_cases hm:s[p.i].toNat=61\/s[p.i].toNat=43\/s[p.i].toNat=59
 ·rw[if_pos hm];have e5:(s.drop p.i).take 1=[s[p.i]]:=by rw[List.drop_eq_getElem_cons h];rfl
  have e6:(s.take (p.i+1)).drop p.i=[s[p.i]]:=by rw[List.drop_take,Nat.add_sub_cancel_left,e5]
  simp only[List.length_cons,List.length_nil,Nat.zero_add,e5];change CP [] _ _ _ (kl _ [oq s (p.ju [s[p.i]])]) at h1;refine ae U rfl ?_;repeat' ((conv=>whnf);first|with_reducible apply aa<;>intro _|refine aJ.drawn U rfl rfl ?_|with_reducible refine And.intro (aG.mk ⟨_,rfl,rfl⟩) ?_|refine ai.ej rfl rfl rfl rfl rfl h ?_|(exfalso;omega)|(refine ai.xZ (i:=p.i) (j:=p.i+1) rfl rfl rfl rfl rfl rfl (aj (by omega) (by omega)) (by omega) (by omega) ?_;rw[e6])|refine bL.loop 2 (bL.step U rfl ?_)|refine bL.step U rfl ?_|refine h1.g [0] rfl rfl ⟨⟨_,rfl,rfl⟩,tU⟩ fun G=>?_|refine ae U rfl ?_)
  all_goals (try conv=>whnf)
  all_goals first
   | exact ⟨rfl,_,_,fun _=>rfl,rfl⟩
   | (exfalso;simp_all;omega)
 ·rw[if_neg hm];have jR:∀h2:p.i+1<s.length,r.head?=some s[p.i+1]:=fun h2=>by rw[hr,List.drop_eq_getElem_cons h2];rfl
  have pF:s.length<=p.i+1->r=[]:=fun h2=>by rw[hr,List.drop_of_length_le h2]
  by_cases hn:s[p.i].toNat=46/\r.head?=some 46
  ·rw[if_pos hn];have h2:p.i+1<s.length:=by
    rcases Nat.lt_or_ge (p.i+1) s.length with h2|h2
    ·exact h2
    ·rw[pF h2] at hn;cases hn.2
   have hb:s[p.i+1]=46:=by rw[jR h2] at hn;exact Option.some.inj hn.2
   have vY:s[p.i]=46:=UInt8.toNat_inj.1 (by rw[hn.1];rfl);have e5:(s.drop p.i).take 2=[s[p.i],s[p.i+1]]:=by rw[List.drop_eq_getElem_cons h,List.drop_eq_getElem_cons h2];rfl
   have e6:(s.take (p.i+2)).drop p.i=[46,46]:=by rw[List.drop_take,Nat.add_sub_cancel_left,e5,hb,vY]
   simp only[List.length_cons,List.length_nil,Nat.zero_add,e5];have h3:=Jz (s:=s) (p:=p.step s[p.i]) h2 hl (Pt.Dk hp _);change CP [] _ _ _ (kl _ [oq s (p.ju [s[p.i],s[p.i+1]])]) at h3;rw[vY] at h1 h3;rw[hb] at h3;rw[vY,hb];refine ae U rfl ?_;repeat' ((conv=>whnf);first|with_reducible apply aa<;>intro _|refine aJ.drawn U rfl rfl ?_|with_reducible refine And.intro (aG.mk ⟨_,rfl,rfl⟩) ?_|(refine ai.ej (k:=p.i) rfl rfl rfl rfl rfl h ?_;rw[vY])|(refine ai.ej (k:=p.i+1) rfl rfl rfl rfl (aj (by omega) (by omega)) h2 ?_;rw[hb])|(exfalso;omega)|(refine ai.xZ (i:=p.i) (j:=p.i+2) rfl rfl rfl rfl rfl rfl (aj (by omega) (by omega)) (by omega) (by omega) ?_;rw[e6])|refine bL.loop 3 (bL.step U rfl ?_)|refine bL.step U rfl ?_|refine h1.g [0] rfl rfl ⟨⟨_,rfl,rfl⟩,tU⟩ fun G=>?_|refine h3.g [0] rfl rfl ⟨⟨_,rfl,rfl⟩,tU⟩ fun G=>?_|refine ae U rfl ?_)
   all_goals (try conv=>whnf)
   ·exact Ra h2 hl (by assumption)
   ·exact ⟨rfl,_,_,fun _=>rfl,rfl⟩
  ·rw[if_neg hn];refine ae U rfl ?_;repeat' ((conv=>whnf);first|with_reducible apply aa<;>intro _|refine aJ.drawn U rfl rfl ?_|with_reducible refine And.intro (aG.mk ⟨_,rfl,rfl⟩) ?_|(refine ai.ej (k:=p.i) rfl rfl rfl rfl rfl h ?_)|(exfalso;simp only[beq_iff_eq,beq_eq_false_iff_ne,ne_eq] at *;omega)|(rename_i hx;have h2:=Rb h hl hx;refine ai.ej (k:=p.i+1) rfl rfl rfl rfl (aj (by omega) (by omega)) h2 ?_)|refine ae U rfl ?_)
   all_goals (try conv=>whnf)
   all_goals first
    | exact ⟨rfl,_,_,fun h=>(nomatch h),rfl⟩
    | (exfalso;rename_i hz hy;refine hn ⟨Int.ofNat.inj (eq_of_beq hz),?_⟩;rw[jR h2];exact congrArg some (UInt8.toNat_inj.1 (Int.ofNat.inj (by simpa using hy))))
    | trace_state
theorem Vm:CP [] 299 [.ptr 0 0] [oq s p] (D8 s p):=by
 have h1:=EY Br (s:=s) (p:=p);have h2:=EY E4 (s:=s) (p:=p);have e:∀pr:UInt8->Bool,iu pr (s.drop p.i)=pr s[p.i]:=fun pr=>by rw[List.drop_eq_getElem_cons h];rfl
 rw[e] at h1 h2;clear e;have h3:=Vl h hl hp;have h4:=ldigits h hl hp;have h5:=Vk h hl hp;cases hb:isLet s[p.i]<;>cases hd:bV s[p.i]
 all_goals
  rw[hb] at h1
  rw[hd] at h2
  unfold D8 at h3 h4 h5 ⊢
  obtain ⟨t,ht⟩:∃t,t=b9 (s.drop p.i):=⟨_,rfl⟩
  rw[<-ht] at h3 h4 h5 ⊢
  refine ae U rfl ?_
  repeat' ((conv=>whnf);first|with_reducible apply aa<;>intro _|refine h1.g [0] rfl rfl ⟨⟨_,rfl,rfl⟩,tU⟩ fun G=>?_|refine h2.g [0] rfl rfl ⟨⟨_,rfl,rfl⟩,tU⟩ fun G=>?_|(refine (h3 hb).use [0] rfl rfl ⟨⟨_,rfl,rfl⟩,tU⟩ ?_;rintro _ _ ⟨rfl,q,G,hq,rfl⟩;refine ⟨[],?_⟩)|(refine (h4 hb hd).use [0] rfl rfl ⟨⟨_,rfl,rfl⟩,tU⟩ ?_;rintro _ _ ⟨rfl,q,G,hq,rfl⟩;refine ⟨[],?_⟩)|(refine (h5 hb hd).use [0] rfl rfl ⟨⟨_,rfl,rfl⟩,tU⟩ ?_;rintro _ _ ⟨rfl,q,G,hq,rfl⟩;refine ⟨[],?_⟩)|refine ae U rfl ?_)
  all_goals (try conv=>whnf)
  all_goals exact ⟨rfl,_,_,hq,rfl⟩
end
end Go.Proofs.YtmbdghclhpboaaaGreat
