/- Part of the proof: Sort SyQ LawBk Rf01 Rf10 Rf10b Rf10c Rf10d. Conditions: as each states. -/
import Derived.Lib.ReflectliteSlice
import Derived.Test.YtmbdghclhpboaaaGreatPq38
set_option linter.all false
set_option maxRecDepth 100000
set_option maxHeartbeats 8000000
namespace Go.Proofs.YtmbdghclhpboaaaGreat
open Ev Go.RowKit
structure sC(t:TypeId):Prop where
 row:∃e i ie ke,Tryz.prog.info? t=some i/\i.desc=.slice e/\Tryz.prog.packed t=false/\Tryz.prog.info? e=some ie/\∀w,(Extern.Rtype.kind e).run Tryz.prog w=.ok ke w
theorem GS{t:TypeId}(h:sC t)(p:Option Addr)(n c:Nat)(w:World) :
  (callFunc 427 #[.iface t (.slice p n c)]).run Tryz.prog w=.ok (.value (.agg #[typeHandle Tryz.prog t,.pointer (some ⟨w.heap.size,0,none⟩),.int .u64 151])) (w.alloc (.cells #[.slice p n c] t)):=by
 obtain ⟨e,i,ie,ke,h1,h2,h3,h4,h5⟩:=h.row;rw[run_callFunc_extern Tryz.func427 (by kernel_rfl) (by kernel_rfl) (by kernel_rfl) (e:=fun args=>Extern.ReflectliteValue.unpack (args.getD 0 (.tuple #[]))) (by kernel_rfl)];show Result.andThen ((Extern.ReflectliteValue.unpack (.iface t (.slice p n c))).run Tryz.prog w) _=_
 rw[Lib.run_valueOf_slice t e i h1 h2 p n c w];rfl
theorem GI{t:TypeId}(h:sC t)(p:Option Addr)(n c:Nat)(hn:n<=1) :
  ∃f,∀w,(callFunc 428 #[.iface t (.slice p n c)]).run Tryz.prog w=.ok (.value (.func (.func f) #[] #[])) w:=by
 obtain ⟨e,i,ie,ke,h1,h2,h3,h4,h5⟩:=h.row;have hk:Lib.swapperK n ie ke<=2:=by
  unfold Lib.swapperK;rcases (by omega:n=0\/n=1) with rfl|rfl<;>simp
 have hf:∃f,Tryz.prog.funcs.findIdx? (·.name== "internal/reflectlite"++ ".Swapper$"++toString (Lib.swapperK n ie ke))=some f:=by
  rcases (by omega:n=0\/n=1) with rfl|rfl
  ·have:Lib.swapperK 0 ie ke=1:=by simp[Lib.swapperK]
   rw[this];exact ⟨483,by kernel_rfl⟩
  ·have:Lib.swapperK 1 ie ke=2:=by simp[Lib.swapperK]
   rw[this];exact ⟨484,by kernel_rfl⟩
 obtain ⟨f,hf⟩:=hf;refine ⟨f,fun w=>?_⟩;rw[run_callFunc_extern Tryz.func428 (by kernel_rfl) (by kernel_rfl) (by kernel_rfl) (e:=Extern.ReflectliteSwapper.swapper "internal/reflectlite" (Extern.ReflectliteValue.valueError "Swapper")) (by kernel_rfl)];rw[Lib.run_swapper_slice t e i ie h1 h2 h4 ke h5 p n c f hf w,if_pos hk];rfl
theorem QF{t:TypeId}(h:sC t)(a:Addr)(p:Option Addr)(n c:Nat)(w:World)(ha:w.cell? a=some (.slice p n c)) :
  (callFunc 429 #[.agg #[typeHandle Tryz.prog t,.pointer (some a),.int .u64 151]]).run Tryz.prog w=.ok (.value (.int .i64 n)) w:=by
 obtain ⟨e,i,ie,ke,h1,h2,h3,h4,h5⟩:=h.row;rw[run_callFunc_extern Tryz.func429 (by kernel_rfl) (by kernel_rfl) (by kernel_rfl) (e:=Extern.ReflectliteValue.method (Extern.ReflectliteValue.valueError "reflectlite.Value.Len" 0) Extern.ReflectliteValue.len) (by kernel_rfl)];rw[Lib.run_valueLen_slice t e i h1 h2 h3 a p n c w ha];rfl
theorem Wf:qU ev 20 264 [.lit (.int .u64 0)]=some (.int .i64 0):=by kernel_rfl
theorem Wg:qU ev 20 264 [.lit (.int .u64 1)]=some (.int .i64 1):=by kernel_rfl
theorem aaq(g g2:Fn)(a b:Array Value)(l:Value):qU ev 20 430 [.agg [.lit (.func g a b),.lit (.func g2 #[] #[])],.lit (.int .i64 0),.lit (.int .i64 0),.lit l]=some (.tuple #[]):=by kernel_rfl
theorem aar(g g2:Fn)(a b:Array Value)(l:Value):qU ev 20 430 [.agg [.lit (.func g a b),.lit (.func g2 #[] #[])],.lit (.int .i64 0),.lit (.int .i64 1),.lit l]=some (.tuple #[]):=by kernel_rfl
theorem y4{t:TypeId}(h:sC t)(p:Option Addr)(n c:Nat)(hn:n<=1)(g:Fn)(a b:Array Value)(w:World) :
  Calls Tryz.prog 332 #[.iface t (.slice p n c),.func g a b] w (fun e w'=>e=.returned (.tuple #[])/\Below w.heap.size w w'):=by
 obtain ⟨aY,PU,Vy⟩:∃aY:Int,qU ev 20 264 [.lit (.int .u64 (n:Nat))]=some (.int .i64 aY)/\∀(g g2:Fn) (a b:Array Value) (l:Value),qU ev 20 430 [.agg [.lit (.func g a b),.lit (.func g2 #[] #[])],.lit (.int .i64 0),.lit (.int .i64 (n:Nat)),.lit l]=some (.tuple #[]):=by
  rcases (by omega:n=0\/n=1) with rfl|rfl
  ·exact ⟨0,Wf,aaq⟩
  ·exact ⟨1,Wg,aar⟩
 have V:=GS h p n c;obtain ⟨f,S⟩:=GI h p n c hn;have L:=fun (w:World) (x:Addr) (ha:w.cell? x=some (.slice p n c))=>QF h x p n c w ha;have hh:∃th,typeHandle Tryz.prog t=.pointer (some th):=⟨_,rfl⟩;obtain ⟨th,hth⟩:=hh;rw[hth] at V L;have HB:=Lib.hid PU;have HP:=Lib.hid Vy;clear PU Vy;go_enter Tryz.func332,Tryz.ntmps332;go_wp2_with fail;refine (Bv aa HB.out (iQ _ [.int .u64 (n:Nat)] rfl) _).mono ?_;rintro e w1 ⟨rfl,iW⟩;have H1:=Lib.hid iW;clear iW;go_wp2_with fail;refine (Bv aa (HP.out g (.func f) a b _) (iQ _ [.agg #[.func g a b,.func (.func f) #[] #[]],.int .i64 0,.int .i64 (n:Nat),.int .i64 aY] rfl) _).mono ?_;rintro e w2 ⟨rfl,lJ⟩;have H2:=Lib.hid lJ;clear lJ;go_wp2_with fail;refine bodyPost_end (results_none rfl _ _ _) rfl ?_;refine ⟨rfl,?_⟩;have h0:=((Below.refl _ w).alloc (Nat.le_refl _) (.cells #[.slice p n c] t)).alloc (by simp) (.cells #[.pointer (some th),.pointer (some ⟨w.heap.size,0,none⟩),.int .u64 151] 498);exact (h0.trans (H1.out.mono h0.size)).trans (H2.out.mono (Nat.le_trans h0.size H1.out.size))
theorem OA:sC 24:=⟨72,Tryz.t24,Tryz.t72,25,by kernel_rfl,rfl,by kernel_rfl,by kernel_rfl,fun w=>by kernel_rfl⟩
theorem OB:sC 25:=⟨78,Tryz.t25,Tryz.t78,25,by kernel_rfl,rfl,by kernel_rfl,by kernel_rfl,fun w=>by kernel_rfl⟩
theorem Oz:sC 372:=⟨47,Tryz.t372,Tryz.t47,11,by kernel_rfl,rfl,by kernel_rfl,by kernel_rfl,fun w=>by kernel_rfl⟩
def small:AV->Bool
 | .lit (.slice none n _)=>Nat.ble n 1
 | .slice _ _ n _=>Nat.ble n 1
 | _=>false
def GF:Nat->List AV->Option AV:=fun f args=>match Nat.beq f 332 with
 | true=>match args with
   | [.iface t s,.func _ _ _]=>match small s&&nZ [24,25,372] t with
     | true=>some (.lit (.tuple #[]))
     | false=>none
   | _=>none
 | false=>none
theorem Ly:∀f args v,GF f args=some v->∀(γ:aT) (w:World) (xs:Array Value),aG γ args xs.toList->(callFunc f xs).run Tryz.prog w=.ok (.enter f xs) w/\Calls Tryz.prog f xs w (fun e w'=>∃x,e=.returned x/\aw γ v x/\Below w.heap.size w w'):=by
 intro f args v h γ w xs hx;unfold GF at h;split at h
 ·rename_i hf;have hf:=nQ1 hf;subst hf;split at h
  ·rename_i t s g l m;split at h
   ·rename_i hb;simp only[Option.some.injEq] at h;subst h;rw[Bool.and_eq_true] at hb;have ht:sC t:=by
     have:=uw.1 hb.2;simp only[List.mem_cons,List.not_mem_nil,or_false] at this;rcases this with rfl|rfl|rfl
     ·exact OA
     ·exact OB
     ·exact Oz
    simp only[aG] at hx;obtain ⟨x,xs',e,hc,y,ys,rfl,hd,rfl⟩:=hx;simp only[aw] at hc hd;obtain ⟨sv,rfl,hs⟩:=hc;obtain ⟨a,b,rfl,_,_⟩:=hd;have F4:∃p n c,sv=.slice p n c/\n<=1:=by
     have hb:=hb.1;unfold small at hb;split at hb
     ·rw[au] at hs;exact ⟨_,_,_,hs,nB1 hb⟩
     ·simp only[aw] at hs;obtain ⟨ad,cc,rfl,_⟩:=hs;exact ⟨_,_,_,rfl,nB1 hb⟩
     ·cases hb
    obtain ⟨p,n,c,rfl,hn⟩:=F4;obtain rfl:xs=#[.iface t (.slice p n c),.func g a b]:=Array.ext' e;refine ⟨Tryz.call332 _ w,(y4 ht p n c hn g a b w).mono ?_⟩;rintro e w' ⟨rfl,hb⟩;exact ⟨_,rfl,aS γ _,hb⟩
   ·cases h
  ·cases h
 ·cases h
def GD:Cb:=fun f args σ=>(GF f args).map fun v=>(v,σ)
theorem Lx:sz Tryz.prog GD:=fun f args σ v cJ h F γ w xs hR hx=>by
 unfold GD at h;obtain ⟨u,h0,e⟩:=oM1.1 h;simp only[Prod.mk.injEq] at e;obtain ⟨rfl,rfl⟩:=e;obtain ⟨c1,c2⟩:=Ly f args u h0 γ w xs hx;refine ⟨c1,fun R fx=>c2.mono ?_⟩;rintro e w' ⟨x,rfl,hc,hb⟩;exact fx γ x w' hc (hR.grown hb) (.refl γ _)
theorem QB:wR ev GD 60 10 []=some (.bool true):=by kernel_rfl
theorem IT(w:World):Calls Tryz.prog 10 #[] w (fun e w'=>e=.returned (.bool true)/\Below w.heap.size w w'):=
 zp aa Lx QB (iQ [] [] rfl) w
end Go.Proofs.YtmbdghclhpboaaaGreat
namespace Go.Proofs.YtmbdghclhpboaaaGreat.Ev
open Go.RowKit
theorem Rx(w:World):aU ⟨w,fun _=>False⟩ emp (hp []) w:=
 ⟨⟨fun _ _=>rfl,fun o p h=>by simp[emp] at h,fun o h=>by simp[emp] at h,fun o o' p p' h=>by simp[emp] at h,Nat.zero_le _⟩,fun o p h=>by simp[emp] at h,⟨rfl,rfl,rfl,Nat.le_refl _,fun _ h=>h.elim,fun _ h=>h.elim,fun o p h=>by simp[emp] at h⟩⟩
theorem aj.calls{P:Program}{f:Nat}{args:List AV}{xs:List Value}{K:AV->List ai->Prop}{w:World}(c:oJ P f args [.res (pN 0 w)] K)(ha:AV.kF args=some xs)(hk:∀v H',K v H'->v=.lit (.bool true)/\∃G,H'=.res (pN 0 w)::G):Calls P f xs.toArray w (fun e w'=>e=.returned (.bool true)/\Below w.heap.size w w'):=by
 obtain ⟨h1,h2,h3⟩:=Hg (R:=pN 0 w) (S:=fun b=>b<w.heap.size) (T:=fun _=>False) (Rx w) (by decide) (fun _ h=>h) (fun _ h=>h.elim) ⟨fun b=>by simp,fun _ _ _=>rfl⟩ (fun b hb=>⟨fun h=>h,fun h=>h,fun o p h=>by simp[emp] at h⟩);obtain ⟨_,c2⟩:=c.out _ _ w xs.toArray h1 (fun o ho _=>by
  have:o=0:=by simpa using ho
  subst this;rw[show (0:Nat)=([]:List ai).length from rfl,bI];simp) h2 (by simpa using iQ args xs ha)
 refine c2 _ fun v H' ay x w' k1 k2 k3=>?_;obtain ⟨rfl,G,rfl⟩:=hk v H' k1;simp only[aw] at k2;subst k2;refine ⟨rfl,?_⟩;have hF:=k3.rel.frame;obtain ⟨T,hT,_⟩:=k3.rs.out;obtain ⟨S1,_,hs,_⟩:=hT;exact ⟨hF.os,hF.tape,hF.output,hF.size,fun b hb=>hs.2 b (Nat.zero_le _) hb⟩
end Go.Proofs.YtmbdghclhpboaaaGreat.Ev
namespace Go.Proofs.YtmbdghclhpboaaaGreat
open Ev
theorem yU{S:List Nat}{H:List ai}{K:AV->List ai->Prop}(k:K (bA true) H):CP S 10 [] H K:=aj.Et aa rfl rfl IT k
theorem U8{q:bG}{tk:List dW}(ho:He q tk):∀x∈tk,x.l.length<=8:=fun x hx=>by
 obtain ⟨i,hi,rfl⟩:=List.getElem_of_mem hx;exact (ho.ms i (by rw[<-ho.tl];exact hi) hi).2.2.1
open Ev Go.RowKit
theorem RQ{R1 R2:aC}{A B:Option Addr}{c d:Nat}{l m:List UInt8}(hl:cU Tryz.prog R1 da 1 A uM l)(hm:cU Tryz.prog R2 da 1 B uM m)(hn:l.length<=1000000000):CP [] 13 [.lit (.slice A l.length c),.lit (.slice B m.length d)] [.res R1,.res R2] (lf (bA (decide (l=m))) [.res R1,.res R2]):=by
 refine ag aa rfl ?_;repeat' ((conv=>whnf);with_reducible apply af<;>intro _)
 all_goals (try conv=>whnf)
 ·rename_i hx;have aP:l.length≠m.length:=fun e=>by rw[e] at hx;simp at hx
  exact ⟨bc (decide_eq_false fun e=>aP (by rw[e])).symm,[],rfl⟩
 ·rename_i hx;have jC:l.length=m.length:=by
   have:=bne_eq_false_iff_eq.1 hx;omega
  refine aV aa rfl (fun k:Nat=>[(0,.lit (.slice A l.length c)),(1,.lit (.slice B m.length d)),(5,iA (k:Nat))]) (fun _=>[.res R1,.res R2]) (fun k=>k<=l.length/\decide (l=m)=decide (l.drop k=m.drop k)) (fun k=>l.length - k) 0 ⟨Nat.zero_le _,rfl⟩ [0,1] ⟨rfl,⟨rr,rr,rr,tU⟩,⟨ko,ko,tU⟩⟩ ?_;rintro k ⟨gl,hr⟩;by_cases hk:k<l.length
  ·have dS:k<m.length:=by omega
   obtain ⟨a,rfl,gT⟩:=hl.at hk;obtain ⟨b,rfl,cQ⟩:=hm.at dS;rw[Ib jC hk dS] at hr;conv=>whnf
   refine af (fun _=>?_) (bT hk);repeat' ((conv=>whnf);first|with_reducible apply af<;>intro _|refine aM.tail aa 8 rfl (by kernel_rfl) ?_|refine cX.bC aa rfl rfl rfl rfl rfl hk ?_|refine cX.bC aa rfl rfl rfl rfl rfl dS ?_|refine cX.aR (i:=0) (v:=.lit (uM l[k])) rfl (fun w S hR=>gT w S hR k hk) rfl rfl ?_|refine cX.aR (i:=1) (v:=.lit (uM m[k])) rfl (fun w S hR=>cQ w S hR k dS) rfl rfl ?_|refine cX.pure aa rfl ?_|refine cX.read aa rfl ?_)
   all_goals (try conv=>whnf)
   ·rename_i hy;have aP:l[k]≠m[k]:=fun e=>by rw[e] at hy;simp at hy
    exact ⟨bc (by rw[hr,decide_eq_false aP];rfl),[],rfl⟩
   ·rename_i hy;have he:l[k]=m[k]:=by
     have h1:=bne_eq_false_iff_eq.1 hy;have h2:l[k].toNat=m[k].toNat:=by omega
     exact UInt8.toNat.inj h2
    rw[decide_eq_true he,Bool.true_and] at hr;exact ⟨k+1,[0,1],⟨⟨hk,hr⟩,by omega⟩,rfl,⟨rr,rr,⟨rfl,ax rfl (ak (by omega) (by omega))⟩,tU⟩,⟨ko,ko,tU⟩⟩
  ·obtain rfl:k=l.length:=by omega
   repeat' ((conv=>whnf);first|with_reducible apply af<;>intro _|(exfalso;exact cF hk (by assumption))|refine ag aa rfl ?_)
   all_goals (try conv=>whnf)
   rw[List.drop_length,jC,List.drop_length] at hr;exact ⟨bc (by rw[hr];rfl),[],rfl⟩
theorem nF:sB 265 isLet:=fun c k=>by
 refine aj.pure ?_ (fun _=>rfl) (fun _=>rfl) k;refine ag aa rfl ?_;repeat' ((conv=>whnf);with_reducible apply af<;>intro _)
 all_goals
  refine bc ?_
  simp_all [isLet]
 all_goals omega
theorem uD:sB 268 cx:=fun c k=>by
 refine aj.pure ?_ (fun _=>rfl) (fun _=>rfl) k;refine ag aa rfl ?_;repeat' ((conv=>whnf);with_reducible apply af<;>intro _)
 all_goals
  refine bc ?_
  simp_all [cx]
 all_goals omega
theorem Sb{s:List UInt8}{S:List Nat}{H:List ai}{K:AV->List ai->Prop}(k:K (bA (isWord s)) H):CP S 267 [.lit (dw s)] H K:=by
 refine aj.pure ?_ (fun _=>rfl) (fun _=>rfl) k;obtain ⟨b,hb⟩:∃b,b=isWord s:=⟨_,rfl⟩;rw[<-hb];refine ag aa rfl ?_;conv=>whnf
 refine aV aa rfl (fun k=>[(0,.lit (dw s)),(3,.slice 0 0 11 (.k 11)),(4,iA (k:Nat))]) (fun _=>[.row (wD.map dw) 9]) (fun k=>k<=11/\b=(wD.drop k).any (fun w=>decide (s=w))) (fun k=>11 - k) 0 ⟨Nat.zero_le _,hb⟩ [0] ?_ ?_
 ·exact ⟨rfl,⟨rr,rr,rr,tU⟩,⟨⟨_,rfl,rfl⟩,tU⟩⟩
 ·rintro k ⟨hk,he⟩;clear hb;by_cases eQ:k<11
  ·have dS:k<wD.length:=eQ;obtain ⟨u,hu⟩:∃u,u=wD[k]:=⟨_,rfl⟩;rw[List.drop_eq_getElem_cons dS,List.any_cons,<-hu] at he;repeat' ((conv=>whnf);first|with_reducible apply af<;>intro _|refine aO.of rfl eQ ?_|(refine dL.val dS ?_;rw[<-hu])|refine ag aa rfl ?_)
   all_goals (try conv=>whnf)
   all_goals first
    | (exfalso;exact bT eQ (by assumption))
    | (rename_i hx;rw[o9] at hx;have hx:=dT1 hx;refine bc ?_;rw[he,hx,decide_eq_true rfl];rfl)
    | (rename_i hx;rw[o9] at hx;have hx:=dF1 hx;refine ⟨k+1,[0],⟨⟨eQ,?_⟩,by omega⟩,rfl,⟨rr,rr,⟨rfl,ax rfl (ak (by omega) (by omega))⟩,tU⟩,⟨⟨_,rfl,rfl⟩,tU⟩⟩;rw[he,decide_eq_false (fun h=>hx h.symm)];rfl)
  ·obtain rfl:k=11:=by omega
   repeat' ((conv=>whnf);first|with_reducible apply af<;>intro _  | refine ag aa rfl ?_)
   all_goals (try conv=>whnf)
   all_goals exact bc he.symm
theorem RP{s:List UInt8}{i:Nat}{d:Bool}(hi:i<=s.length)(hl:s.length<=1000000){S:List Nat}{H:List ai}{K:AV->List ai->Prop}(k:K (iA ((s.drop i).takeWhile (if d then cx else dj)).length) H):CP S 266 [.lit (dw s),iA (i:Nat),bA d] H K:=by
 refine aj.pure ?_ (fun _=>rfl) (fun _=>rfl) k;clear k;obtain ⟨pr,pk⟩:∃pr,pr=(if d then cx else dj):=⟨_,rfl⟩;rw[<-pk];have hpd:d=true->pr=cx:=fun h=>by rw[pk,h];rfl
 have hpi:d=false->pr=dj:=fun h=>by rw[pk,h];rfl
 have pV:=LK pr (s.drop i);have TB:=AL pr (s.drop i);have tn:=eV pr (s.drop i);obtain ⟨m,hm⟩:∃m,m=(s.drop i).takeWhile pr:=⟨_,rfl⟩;rw[<-hm] at pV TB tn ⊢;rw[List.length_drop] at tn;clear hm pk;have dO:∀k,ja pr ((s.drop i).drop k)=if h:i+k<s.length then pr s[i+k] else false:=fun k=>by
  rw[List.drop_drop];split
  ·rename_i h;rw[List.drop_eq_getElem_cons h];rfl
  ·rename_i h;rw[List.drop_of_length_le (by omega)];rfl
 refine ag aa rfl ?_;conv=>whnf
 refine aV aa rfl (fun k=>[(0,.lit (dw s)),(1,iA (i:Nat)),(2,bA d),(7,iA (k:Nat))]) (fun _=>[]) (·<=m.length) (fun k=>m.length - k) 0 (Nat.zero_le _) [] ⟨rfl,⟨rr,rr,rr,rr,tU⟩,tU⟩ ?_;intro k hk;have hw:IntKind.i64.wrap ((i:Int)+(k:Int))=((i+k:Nat):Int):=ak (by omega) (by omega);by_cases eQ:k<m.length
 ·have an:i+k<s.length:=by omega
  have hb:=pV k eQ;rw[dO,dif_pos an] at hb;clear pV TB dO;repeat' ((conv=>whnf);first|with_reducible apply af<;>intro _|refine al.eU rfl rfl rfl rfl hw an ?_|refine uD _ ?_|refine nF _ ?_|refine ag aa rfl ?_)
  all_goals (try conv=>whnf)
  all_goals first
   | exact ⟨k+1,[],⟨eQ,Nat.sub_lt_sub_left eQ (Nat.lt_succ_self _)⟩,rfl,⟨rr,rr,rr,⟨rfl,ax rfl (ak (by omega) (by omega))⟩,tU⟩,tU⟩
   | (exfalso;rename_i hx;rw[hw] at hx;exact bT an hx)
   | (exfalso;simp_all [dj];done)
   | (exfalso;simp_all [dj];omega)
 ·obtain rfl:k=m.length:=by omega
  rw[dO] at TB;clear pV dO;by_cases an:i+m.length<s.length
  ·rw[dif_pos an] at TB;repeat' ((conv=>whnf);first|with_reducible apply af<;>intro _|refine al.eU rfl rfl rfl rfl hw an ?_|refine uD _ ?_|refine nF _ ?_|refine ag aa rfl ?_)
   all_goals (try conv=>whnf)
   all_goals first
    | (exfalso;rename_i hx;rw[hw] at hx;exact bT an hx)
    | (exfalso;simp_all [dj];done)
    | (exfalso;clear hw;simp_all [dj];omega)
    | (exfalso;clear hw;cases d<;>simp_all [dj])
  ·repeat' ((conv=>whnf);first|with_reducible apply af<;>intro _  | refine ag aa rfl ?_)
   all_goals (try conv=>whnf)
   all_goals (exfalso;rename_i hx;rw[hw] at hx;exact cF an hx)
def jc(s:List UInt8):Nat:=s.foldl (fun n c=>10 * n+(c.toNat - 48)) 0
theorem zM(s:List UInt8)(c:UInt8):jc (s++[c])=10 * jc s+(c.toNat - 48):=by
 unfold jc;rw[List.foldl_append];rfl
theorem I1(s:List UInt8):r6 s=min 65536 (jc s):=by
 induction h:s.length generalizing s with
 | zero=>rw[List.length_eq_zero_iff] at h;subst h;rfl
 | succ n ih=>
   rcases List.eq_nil_or_concat s with rfl|⟨l,c,rfl⟩
   ·simp at h
   ·rw[List.concat_eq_append] at h ⊢;rw[vJ,zM,ih l (by simpa using h)];omega
theorem Ij:∀(r:List UInt8) (n:Nat),n * 10 ^ r.length<=r.foldl (fun n c=>10 * n+(c.toNat - 48)) n
 | [],n=>by simp
 | c::r,n=>by
   rw[List.foldl_cons,List.length_cons,Nat.pow_succ];refine Nat.le_trans ?_ (Ij r _);rw[show n * (10 ^ r.length * 10)=(10 * n) * 10 ^ r.length by rw[Nat.mul_comm (10 ^ r.length),<-Nat.mul_assoc,Nat.mul_comm n]];exact Nat.mul_le_mul_right _ (by omega)
theorem Om:∀(s:List UInt8),(∀c∈s,cx c=true)->s.length<=5->jc s<100000:=fun s hd hl=>by
 have hc:∀c∈s,c.toNat - 48<=9:=fun c hc=>by
  have:=dT1 (hd c hc);omega
 match s,hl with
 | [],_=>simp[jc]
 | [a],_=>simp at hc;simp[jc];omega
 | [a,b],_=>simp at hc;simp[jc];omega
 | [a,b,c],_=>simp at hc;simp[jc];omega
 | [a,b,c,d],_=>simp at hc;simp[jc];omega
 | [a,b,c,d,e],_=>simp at hc;simp[jc];omega
def tN(s:List UInt8):Nat:=if (1<s.length/\s.headD 0=48)\/5<s.length then 65536 else jc s
theorem QR{s:List UInt8}(hd:∀c∈s,cx c=true):(65535<tN s/\(lC s).2=false)\/(tN s<=65535/\lC s=(tN s,true)):=by
 unfold tN lC;by_cases h1:1<s.length/\s.headD 0=48
 ·rw[if_pos (.inl h1),if_pos h1];exact .inl ⟨by omega,rfl⟩
 ·rw[if_neg h1,I1];by_cases h5:5<s.length
  ·rw[if_pos (.inr h5)];refine .inl ⟨by omega,?_⟩;obtain ⟨c,r,rfl⟩:∃c r,s=c::r:=by
    cases s with
    | nil=>simp at h5
    | cons c r=>exact ⟨c,r,rfl⟩
   have hc:=dT1 (hd c (by simp));have h48:c.toNat≠48:=fun h=>h1 ⟨by omega,UInt8.toNat_inj.1 h⟩;have hg:=Ij r (c.toNat - 48);have hp:10 ^ 5<=10 ^ r.length:=Nat.pow_le_pow_right (by omega) (by simp at h5;omega);have h2:1 * 10 ^ 5<=(c.toNat - 48) * 10 ^ r.length:=Nat.mul_le_mul (by omega) hp;have h3:100000<=jc (c::r):=by
    have:jc (c::r)=r.foldl (fun n c=>10 * n+(c.toNat - 48)) (c.toNat - 48):=by unfold jc;rw[List.foldl_cons];simp
    omega
   exact decide_eq_false (by show ¬min 65536 _<=65535;omega)
  ·rw[if_neg (by simp only[h1,h5,or_self,not_false_eq_true])];by_cases h6:65535<jc s
   ·exact .inl ⟨h6,decide_eq_false (by show ¬min 65536 _<=65535;omega)⟩
   ·refine .inr ⟨by omega,?_⟩;rw[show min 65536 (jc s)=jc s by omega,decide_eq_true (by omega)]
theorem Ln{n:Nat}{c:UInt8}(hn:n<=1000000)(hc:cx c=true):IntKind.i64.wrap (IntKind.i64.wrap (IntKind.i64.wrap (10 * (n:Int))+IntKind.i64.wrap (c.toNat:Int)) - 48)=((10 * n+(c.toNat - 48):Nat):Int):=by
 have hc:=dT1 hc;rw[ak (n:=(c.toNat:Int)) (by omega) (by omega),ak (n:=10 * (n:Int)) (by omega) (by omega),ak (n:=10 * (n:Int)+(c.toNat:Int)) (by omega) (by omega),ak (by omega) (by omega)];omega
theorem RE{s:List UInt8}(hd:∀c∈s,cx c=true){S:List Nat}{H:List ai}{K:AV->List ai->Prop}(k:K (iA (tN s)) H):CP S 269 [.lit (dw s)] H K:=by
 refine aj.pure ?_ (fun _=>rfl) (fun _=>rfl) k;clear k;have hh:∀h:0<s.length,s.headD 0=s[0]:=fun h=>by
  cases s with
  | nil=>simp at h
  | cons c r=>rfl
 obtain ⟨v,hv⟩:∃v,v=tN s:=⟨_,rfl⟩;rw[<-hv];unfold tN at hv;by_cases h5:5<s.length
 ·rw[if_pos (.inr h5)] at hv;subst hv;refine ag aa rfl ?_;repeat' ((conv=>whnf);first|with_reducible apply af<;>intro _|refine al.eU (k:=0) rfl rfl rfl rfl rfl (by omega) ?_|(exfalso;rename_i hx;have:=dF1 hx;exact this (Int.ofNat_lt.2 h5))|refine ag aa rfl ?_)
  all_goals (try conv=>whnf)
  all_goals rfl
 ·have h5s:s.length<=5:=by omega
  by_cases h1:1<s.length/\s.headD 0=48
  ·rw[if_pos (.inl h1)] at hv;subst hv;obtain ⟨h1,h2⟩:=h1;have h3:0<s.length:=by omega
   rw[hh h3] at h2;refine ag aa rfl ?_;repeat' ((conv=>whnf);first|with_reducible apply af<;>intro _|(refine al.eU (k:=0) rfl rfl rfl rfl rfl h3 ?_;rw[h2])|(exfalso;rename_i hx _;have:=dF1 hx;exact this (Int.ofNat_lt.2 h1))|refine ag aa rfl ?_)
   all_goals (try conv=>whnf)
   all_goals rfl
  ·rw[if_neg (by simp only[h1,h5,or_self,not_false_eq_true])] at hv;subst hv;refine ag aa rfl ?_;repeat' ((conv=>whnf);first|with_reducible apply af<;>intro _|(rename_i hx;have h2:1<s.length:=Int.ofNat_lt.1 (dT1 hx);refine al.eU (k:=0) rfl rfl rfl rfl rfl (by omega) ?_)|(refine aV aa rfl (fun k=>[(0,.lit (dw s)),(3,iA (jc (s.take k))),(4,iA (k:Nat))]) (fun _=>[]) (·<=s.length) (fun k=>s.length - k) 0 (Nat.zero_le _) [] ⟨rfl,⟨rr,rr,rr,tU⟩,tU⟩ ?_;intro k hk;by_cases eQ:k<s.length)|refine al.eU rfl rfl rfl rfl rfl eQ ?_|refine ag aa rfl ?_)
   all_goals (try conv=>whnf)
   all_goals first
    | (exfalso;rename_i hy;refine h1 ⟨by assumption,?_⟩;rw[hh (by omega)];exact UInt8.toNat_inj.1 (Int.ofNat.inj (eq_of_beq hy)))
    | (exfalso;rename_i hy;exact h5 (Int.ofNat_lt.1 (dT1 hy)))
    | exact bT eQ (by assumption)
    | exact cF eQ (by assumption)
    | (have h6:=Om (s.take k) (fun c hc=>hd c (List.mem_of_mem_take hc)) (by rw[List.length_take];omega);exact ⟨k+1,[],⟨eQ,Nat.sub_lt_sub_left eQ (Nat.lt_succ_self _)⟩,rfl,⟨rr,⟨rfl,ax rfl (by rw[Ln (by omega) (hd _ (List.getElem_mem eQ)),<-zM,<-bq eQ])⟩,⟨rfl,ax rfl (ak (by omega) (by omega))⟩,tU⟩,tU⟩)
    | rw[List.take_of_length_le (by omega)]
def mb:Bool->List UInt8->Nat
 | _,[]=>0
 | m,c::l=>if m || ei c || gd c then 1+mb (gM c&&(m || gd c)) l else 0
theorem QM{c:UInt8}:gM c=false↔c.toNat=10:=by unfold gM;simp
theorem Jx:∀(l:List UInt8),mb true l=(l.takeWhile gM).length+mb false (l.drop (l.takeWhile gM).length)
 | []=>rfl
 | c::l=>by
   rw[List.takeWhile_cons];cases hc:gM c with
   | true=>
     simp only[if_true,List.length_cons,List.drop_succ_cons];rw[mb,hc,if_pos (by simp),show (true&&(true || gd c))=true by simp,Jx l];omega
   | false=>
     have od:=QM.1 hc;have hb:ei c=true:=by unfold ei;simp[od]
     simp only[Bool.false_eq_true,if_false,List.length_nil,List.drop_zero,Nat.zero_add];rw[mb,mb,hc,hb];simp
theorem Jw:∀(l:List UInt8),mb false l=(l.takeWhile ei).length+mb false (l.drop (l.takeWhile ei).length)
 | []=>rfl
 | c::l=>by
   rw[List.takeWhile_cons];cases hc:ei c with
   | true=>
     have hh:gd c=false:=by
      unfold ei at hc;unfold gd;have:=dT1 hc;exact decide_eq_false (by omega)
     simp only[if_true,List.length_cons,List.drop_succ_cons];rw[mb,hc,hh,if_pos (by simp),show (gM c&&(false || false))=false by simp,Jw l];omega
   | false=>simp
theorem UI(l:List UInt8):mb false l=eM l:=by
 induction h:l.length using Nat.strongRecOn generalizing l with
 | _ n ih=>
   rw[Jw,EW];obtain ⟨a,ha⟩:∃a,a=l.takeWhile ei:=⟨_,rfl⟩;have hend:=AL ei l;rw[<-ha] at hend ⊢;obtain ⟨m,hm⟩:∃m,m=l.drop a.length:=⟨_,rfl⟩;have tn:m.length<=l.length:=by rw[hm,List.length_drop];omega
   rw[<-hm] at hend ⊢;cases hc:ja gd m with
   | false=>
     cases m with
     | nil=>rfl
     | cons c r=>
       have h1:ei c=false:=hend;have h2:gd c=false:=hc;rw[mb,h1,h2];simp
   | true=>
     have nC:=pD _ hc;have h3:mb false m=mb true m:=by
      cases m with
      | nil=>cases hc
      | cons c r=>
        have h2:gd c=true:=hc;rw[mb,mb,h2];simp
     rw[if_pos rfl,h3,Jx,ih _ (by
      rw[List.length_drop];have:=yK hc;omega) _ rfl]
     omega
theorem RT{s:List UInt8}{i:Nat}(hi:i<=s.length)(hl:s.length<=1000000){S:List Nat}{H:List ai}{K:AV->List ai->Prop}(k:K (iA (i+eM (s.drop i):Nat)) H):CP S 166 [.lit (dw s),iA (i:Nat)] H K:=by
 refine aj.pure ?_ (fun _=>rfl) (fun _=>rfl) k;clear k;obtain ⟨tg,F6⟩:∃tg,tg=i+eM (s.drop i):=⟨_,rfl⟩;rw[<-F6];rw[<-UI] at F6;refine ag aa rfl ?_;conv=>whnf
 refine aV aa rfl (fun x:Nat×Bool=>[(0,.lit (dw s)),(5,iA x.1),(6,bA x.2)]) (fun _=>[]) (fun x=>x.1<=s.length/\tg=x.1+mb x.2 (s.drop x.1)) (fun x=>s.length - x.1) (i,false) ⟨hi,F6⟩ [] ⟨rfl,⟨rr,rr,rr,tU⟩,tU⟩ ?_;rintro ⟨a,m⟩ ⟨h1,h2⟩;simp only[] at h1 h2;by_cases an:a<s.length
 ·rw[List.drop_eq_getElem_cons an,mb] at h2;obtain ⟨c,hc⟩:∃c,c=s[a]:=⟨_,rfl⟩;rw[<-hc] at h2;obtain ⟨YO,lI⟩:∃b,((c.toNat:Int)==32)=b:=⟨_,rfl⟩;obtain ⟨Pb,od⟩:∃b,((c.toNat:Int)==10)=b:=⟨_,rfl⟩;obtain ⟨YP,S8⟩:∃b,((c.toNat:Int)==35)=b:=⟨_,rfl⟩;have e1:ei c=(YO || Pb):=by unfold ei;rw[<-lI,<-od,Bool.eq_iff_iff];simp;omega
  have e2:gM c=!Pb:=by unfold gM;rw[<-od,Bool.eq_iff_iff];simp;omega
  have e3:gd c=YP:=by unfold gd;rw[<-S8,Bool.eq_iff_iff];simp;omega
  rw[e1,e2,e3] at h2;clear e1 e2 e3 F6;have hw:IntKind.i64.wrap ((a:Int)+1)=((a+1:Nat):Int):=ak (by omega) (by omega);cases m<;>cases YO<;>cases Pb<;>cases YP
  all_goals simp at h2
  all_goals first
   | (exfalso;simp only[beq_iff_eq] at lI od;omega)
   | (exfalso;simp only[beq_iff_eq] at lI S8;omega)
   | (exfalso;simp only[beq_iff_eq] at od S8;omega)
   | skip
  all_goals repeat' ((conv=>whnf);first|rw[lI]|rw[od]|rw[S8]|with_reducible apply af<;>intro _|(refine al.eU rfl rfl rfl rfl rfl an ?_;rw[<-hc]))
  all_goals (try conv=>whnf)
  all_goals first
   | (exfalso;exact bT an (by assumption))
   | exact congrArg iA (congrArg Int.ofNat h2.symm)
   | (refine ⟨(a+1,true),[],⟨⟨an,?_⟩,Nat.sub_lt_sub_left an (Nat.lt_succ_self _)⟩,rfl,⟨rr,⟨rfl,ax rfl hw⟩,⟨rfl,rfl⟩,tU⟩,tU⟩;show tg=a+1+mb true (s.drop (a+1));omega)
   | (refine ⟨(a+1,false),[],⟨⟨an,?_⟩,Nat.sub_lt_sub_left an (Nat.lt_succ_self _)⟩,rfl,⟨rr,⟨rfl,ax rfl hw⟩,⟨rfl,rfl⟩,tU⟩,tU⟩;show tg=a+1+mb false (s.drop (a+1));omega)
   | trace_state
 ·obtain rfl:a=s.length:=by omega
  have h2:tg=s.length:=by rw[h2,List.drop_length];cases m<;>rfl
  repeat' ((conv=>whnf);first|with_reducible apply af<;>intro _  | refine ag aa rfl ?_)
  all_goals (try conv=>whnf)
  all_goals first
   | (exfalso;exact cF an (by assumption))
   | exact congrArg iA (congrArg Int.ofNat h2.symm)
def jz(s:List UInt8)(i:Nat):Pt:=Pt.zero.jZ (s.take i)
theorem TX{s:List UInt8}{i:Nat}(h:i<=s.length):(jz s i).i=i:=by
 unfold jz;rw[Pt.u9,List.length_take,Nat.min_eq_left h];exact Nat.zero_add _
theorem N8(s:List UInt8)(i:Nat):(jz s i).low:=Pt.oV _ Pt.yG
theorem yQ(s:List UInt8)(i j:Nat):jz s (i+j)=(jz s i).jZ ((s.drop i).take j):=by
 unfold jz;rw[List.take_add,Pt.wH]
theorem Gw{s:List UInt8}{i:Nat}(hi:i<=s.length)(hl:s.length<=4611686018427387904){S:List Nat}{H:List ai}{K:AV->List ai->Prop}(k:K (.agg [iA (jz s i).line,iA (jz s i).aX]) H):CP S 96 [.lit (dw s),iA (i:Nat)] H K:=by
 refine aj.pure ?_ (fun _=>rfl) (fun _=>rfl) k;clear k;refine ag aa rfl ?_;conv=>whnf
 refine aV aa rfl (fun k=>[(0,.lit (dw s)),(1,iA (i:Nat)),(4,.ptr 0 0),(5,.ptr 1 0),(6,iA (k:Nat))]) (fun k=>[.cells [iA 0,iA 0] 84,.cells [iA (jz s k).line,iA (jz s k).aX] 84]) (·<=i) (fun k=>i - k) 0 (Nat.zero_le _) [0,1] ⟨rfl,⟨rr,rr,rr,rr,rr,tU⟩,⟨⟨_,rfl,rfl⟩,⟨_,rfl,rfl⟩,tU⟩⟩ ?_;intro k hk;by_cases eQ:k<i
 ·have an:k<s.length:=by omega
  have hp:jz s (k+1)=(jz s k).step s[k]:=by
   rw[yQ,List.drop_eq_getElem_cons an];rfl
  obtain ⟨Vv,Vw⟩:=N8 s k;rw[TX (by omega)] at Vv Vw;obtain ⟨q,hq⟩:∃q,q=jz s k:=⟨_,rfl⟩;simp only[];rw[<-hq] at hp Vv Vw ⊢;repeat' ((conv=>whnf);first|with_reducible apply af<;>intro _|refine al.eU rfl rfl rfl rfl rfl an ?_|refine ag aa rfl ?_)
  all_goals (try conv=>whnf)
  all_goals first
   | exact bT eQ (by assumption)
   | (rename_i hx
      have DD:s[k].toNat=10:=Int.ofNat.inj (eq_of_beq hx)
      refine ⟨k+1,[0,1],⟨eQ,Nat.sub_lt_sub_left eQ (Nat.lt_succ_self _)⟩,rfl,⟨rr,rr,rr,rr,⟨rfl,ax rfl (ak (by omega) (by omega))⟩,tU⟩,⟨⟨_,rfl,rfl⟩,⟨_,rfl,?_⟩,tU⟩⟩
      rw[hp];unfold Pt.step;rw[if_pos DD,if_pos DD,ak (by omega) (by omega)];rfl)
   | (rename_i hx
      have DD:¬s[k].toNat=10:=fun h=>ne_of_beq_false hx (congrArg Int.ofNat h)
      refine ⟨k+1,[0,1],⟨eQ,Nat.sub_lt_sub_left eQ (Nat.lt_succ_self _)⟩,rfl,⟨rr,rr,rr,rr,⟨rfl,ax rfl (ak (by omega) (by omega))⟩,tU⟩,⟨⟨_,rfl,rfl⟩,⟨_,rfl,?_⟩,tU⟩⟩
      rw[hp];unfold Pt.step;rw[if_neg DD,if_neg DD,ak (by omega) (by omega)];rfl)
   | trace_state
 ·obtain rfl:k=i:=by omega
  repeat' ((conv=>whnf);first|with_reducible apply af<;>intro _|(exfalso;exact cF eQ (by assumption))|refine ag aa rfl ?_)
  all_goals (try conv=>whnf)
  all_goals rfl
def O0(l:List UInt8)(v:AV):Prop:=∃t,v=.tuple [.agg (E8 t),iA (cH l).2]/\((cH l).2=0->t=(cH l).1)
theorem UM{s:List UInt8}{i:Nat}(h:i<s.length)(hl:s.length<=1000000):CP [] 167 [.lit (dw s),iA (i:Nat)] [] (fun v _=>O0 (s.drop i) v):=by
 obtain ⟨c,hc⟩:∃c,c=s[i]:=⟨_,rfl⟩;obtain ⟨r,hr⟩:∃r,r=s.drop (i+1):=⟨_,rfl⟩;have hd:s.drop i=c::r:=by rw[List.drop_eq_getElem_cons h,<-hr,<-hc]
 unfold O0;have cut:∀pr:UInt8->Bool,(s.take (i+((s.drop i).takeWhile pr).length)).drop i=(s.drop i).takeWhile pr:=fun pr=>by
  rw[List.drop_take,Nat.add_sub_cancel_left,<-qI]
 have hle:∀pr:UInt8->Bool,i+((s.drop i).takeWhile pr).length<=s.length:=fun pr=>by
  have:=eV pr (s.drop i);rw[List.length_drop] at this;omega
 cases h1:isLet c with
 | true=>
   have e:cH (s.drop i)=(⟨if isWord ((s.drop i).takeWhile dj) then 2 else 1,(s.drop i).takeWhile dj,0,0,0⟩,if 16<((s.drop i).takeWhile dj).length then 2 else 0):=by
    rw[hd];unfold cH;simp only[h1,if_true]
   rw[e];have hcut:=cut dj;have hJ:=hle dj;have dB:=@RP s i false (by omega) hl;simp only[Bool.false_eq_true,if_false] at dB;obtain ⟨w,hw⟩:∃w,w=(s.drop i).takeWhile dj:=⟨_,rfl⟩;rw[<-hw] at hcut hJ dB ⊢;clear e cut hle hw hd hr;have IN:IntKind.i64.wrap ((i:Int)+(w.length:Int))=((i+w.length:Nat):Int):=ak (by omega) (by omega);by_cases z5:16<w.length<;>cases hb:isWord w;all_goals
    simp only[z5,if_true,if_false]
    refine ag aa rfl ?_
    repeat' ((conv=>whnf);first|with_reducible apply af<;>intro _|(refine al.eU rfl rfl rfl rfl rfl h ?_;rw[<-hc])|(refine nF _ ?_;rw[h1])|refine dB ?_|(refine al.y5 rfl rfl rfl rfl rfl rfl IN (Nat.le_add_right _ _) hJ ?_;rw[hcut])|(refine Sb ?_;rw[hb])|refine ag aa rfl ?_)
    all_goals (try conv=>whnf)
    all_goals first
     | exact ⟨⟨0,w,0,0,0⟩,rfl,fun h=>(nomatch h)⟩
     | exact ⟨⟨1,w,0,0,0⟩,rfl,fun _=>rfl⟩
     | exact ⟨⟨2,w,0,0,0⟩,rfl,fun _=>rfl⟩
     | (exfalso;rename_i hx;exact dF1 hx (Int.ofNat_lt.2 z5))
     | (exfalso;rename_i hx;exact z5 (Int.ofNat_lt.1 (dT1 hx)))
     | trace_state
 | false=>
   cases h2:cx c with
   | true=>
     have e:cH (s.drop i)=if (lC ((s.drop i).takeWhile cx)).2 then (⟨3,(s.drop i).takeWhile cx,(lC ((s.drop i).takeWhile cx)).1,0,0⟩,0) else (⟨3,(s.drop i).takeWhile cx,0,0,0⟩,10):=by
      rw[hd];unfold cH;simp only[h1,h2,if_true,Bool.false_eq_true,if_false]
     rw[e];have hcut:=cut cx;have hJ:=hle cx;have dB:=@RP s i true (by omega) hl;simp only[if_true] at dB;have Xd:=GR cx (s.drop i);obtain ⟨w,hw⟩:∃w,w=(s.drop i).takeWhile cx:=⟨_,rfl⟩;rw[<-hw] at hcut hJ dB Xd ⊢;have BV:=@RE w Xd;have hrel:=QR Xd;clear e cut hle hw hd hr;have IN:IntKind.i64.wrap ((i:Int)+(w.length:Int))=((i+w.length:Nat):Int):=ak (by omega) (by omega);obtain ⟨v,hv⟩:∃v,v=tN w:=⟨_,rfl⟩;rw[<-hv] at BV hrel;clear hv;rcases hrel with ⟨hb,hn⟩|⟨hb,hn⟩;all_goals
      rw[hn]
      simp only[if_true,Bool.false_eq_true,if_false]
      refine ag aa rfl ?_
      repeat' ((conv=>whnf);first|with_reducible apply af<;>intro _|(refine al.eU rfl rfl rfl rfl rfl h ?_;rw[<-hc])|(refine nF _ ?_;rw[h1])|(refine uD _ ?_;rw[h2])|refine dB ?_|(refine al.y5 rfl rfl rfl rfl rfl rfl IN (Nat.le_add_right _ _) hJ ?_;rw[hcut])|refine BV ?_|refine ag aa rfl ?_)
      all_goals (try conv=>whnf)
      all_goals first
       | exact ⟨⟨0,w,0,0,0⟩,rfl,fun h=>(nomatch h)⟩
       | exact ⟨⟨3,w,v,0,0⟩,rfl,fun _=>rfl⟩
       | (exfalso;rename_i hx;have:=dF1 hx;omega)
       | (exfalso;rename_i hx;have:=dT1 hx;omega)
       | trace_state
   | false=>
     have e:cH (s.drop i)=if c.toNat=61\/c.toNat=43\/c.toNat=59 then (⟨4,[c],0,0,0⟩,0) else if c.toNat=46/\r.head?=some 46 then (⟨4,[46,46],0,0,0⟩,0) else (Tk.none,30):=by
      rw[hd];unfold cH;simp only[h1,h2,Bool.false_eq_true,if_false]
     rw[e];clear cut hle e;have e6:(s.take (i+1)).drop i=[c]:=by rw[List.drop_take,Nat.add_sub_cancel_left,hd];rfl
     have xg:IntKind.i64.wrap ((i:Int)+1)=((i+1:Nat):Int):=ak (by omega) (by omega);have kH:∀h2:i+1<s.length,r.head?=some s[i+1]:=fun h2=>by rw[hr,List.drop_eq_getElem_cons h2];rfl
     have qo:s.length<=i+1->r=[]:=fun h2=>by rw[hr,List.drop_of_length_le h2]
     clear hd hr;by_cases hm:c.toNat=61\/c.toNat=43\/c.toNat=59
     ·simp only[hm,if_true];refine ag aa rfl ?_;repeat' ((conv=>whnf);first|with_reducible apply af<;>intro _|(refine al.eU rfl rfl rfl rfl rfl h ?_;rw[<-hc])|(refine nF _ ?_;rw[h1])|(refine uD _ ?_;rw[h2])|(refine al.y5 rfl rfl rfl rfl rfl rfl xg (Nat.le_succ _) h ?_;rw[e6])|refine ag aa rfl ?_)
      all_goals (try conv=>whnf)
      all_goals first
       | exact ⟨⟨4,[c],0,0,0⟩,rfl,fun _=>rfl⟩
       | (exfalso;simp only[beq_eq_false_iff_ne,ne_eq] at *;omega)
     ·simp only[hm,if_false];by_cases hn:c.toNat=46/\r.head?=some 46
      ·simp only[hn,and_self,if_true];have h5:i+1<s.length:=by
        rcases Nat.lt_or_ge (i+1) s.length with h5|h5
        ·exact h5
        ·rw[qo h5] at hn;cases hn.2
       have hb:s[i+1]=46:=by rw[kH h5] at hn;exact Option.some.inj hn.2
       have Zz:c=46:=UInt8.toNat_inj.1 (by rw[hn.1];rfl);clear kH qo hn hm;subst Zz;refine ag aa rfl ?_;repeat' ((conv=>whnf);first|with_reducible apply af<;>intro _|(refine al.eU (k:=i) rfl rfl rfl rfl rfl h ?_;rw[<-hc])|(refine al.eU (k:=i+1) rfl rfl rfl rfl xg h5 ?_;rw[hb])|(refine nF _ ?_;rw[h1])|(refine uD _ ?_;rw[h2])|refine ag aa rfl ?_)
       all_goals (try conv=>whnf)
       all_goals first
        | exact ⟨⟨4,[46,46],0,0,0⟩,rfl,fun _=>rfl⟩
        | (exfalso;rename_i hx;rw[xg] at hx;exact bT h5 hx)
      ·simp only[hn,if_false];refine ag aa rfl ?_;repeat' ((conv=>whnf);first|with_reducible apply af<;>intro _|(refine al.eU (k:=i) rfl rfl rfl rfl rfl h ?_;rw[<-hc])|(exfalso;simp only[beq_iff_eq] at *;omega)|(rename_i hx _;rw[xg] at hx;have h5:=Int.ofNat_lt.1 (dT1 hx);refine al.eU (k:=i+1) rfl rfl rfl rfl xg h5 ?_)|(refine nF _ ?_;rw[h1])|(refine uD _ ?_;rw[h2])|refine ag aa rfl ?_)
       all_goals (try conv=>whnf)
       all_goals first
        | exact ⟨Tk.none,rfl,fun h=>(nomatch h)⟩
        | (exfalso;rename_i hz hy;refine hn ⟨Int.ofNat.inj (eq_of_beq hz),?_⟩;rw[kH h5];exact congrArg some (UInt8.toNat_inj.1 (Int.ofNat.inj (eq_of_beq hy))))
