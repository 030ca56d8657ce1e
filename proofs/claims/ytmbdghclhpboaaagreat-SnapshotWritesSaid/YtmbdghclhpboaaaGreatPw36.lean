/- Part of the proof: Sort SyQ LawBk Rf01 Rf10 Rf10b Rf10c Rf10d. Conditions: as each states. -/
import Derived.Lib.ReflectliteSlice
import Derived.Test.YtmbdghclhpboaaaGreatPw35
set_option linter.all false
set_option maxRecDepth 100000
set_option maxHeartbeats 8000000
namespace Go.Proofs.YtmbdghclhpboaaaGreat
open Ev Go.RowKit
structure rE(t:TypeId):Prop where
 row:∃e i ie ke,Tryz.prog.info? t=some i/\i.desc=.slice e/\Tryz.prog.packed t=false/\Tryz.prog.info? e=some ie/\∀w,(Extern.Rtype.kind e).run Tryz.prog w=.ok ke w
theorem Fz{t:TypeId}(h:rE t)(p:Option Addr)(n c:Nat)(w:World) :
  (callFunc 427 #[.iface t (.slice p n c)]).run Tryz.prog w=.ok (.value (.agg #[typeHandle Tryz.prog t,.pointer (some ⟨w.heap.size,0,none⟩),.int .u64 151])) (w.alloc (.cells #[.slice p n c] t)):=by
 obtain ⟨e,i,ie,ke,h1,h2,h3,h4,h5⟩:=h.row;rw[run_callFunc_extern Tryz.func427 (by kernel_rfl) (by kernel_rfl) (by kernel_rfl) (e:=fun args=>Extern.ReflectliteValue.unpack (args.getD 0 (.tuple #[]))) (by kernel_rfl)];show Result.andThen ((Extern.ReflectliteValue.unpack (.iface t (.slice p n c))).run Tryz.prog w) _=_
 rw[Lib.run_valueOf_slice t e i h1 h2 p n c w];rfl
theorem Fq{t:TypeId}(h:rE t)(p:Option Addr)(n c:Nat)(hn:n<=1) :
  ∃f,∀w,(callFunc 428 #[.iface t (.slice p n c)]).run Tryz.prog w=.ok (.value (.func (.func f) #[] #[])) w:=by
 obtain ⟨e,i,ie,ke,h1,h2,h3,h4,h5⟩:=h.row;have hk:Lib.swapperK n ie ke<=2:=by
  unfold Lib.swapperK;rcases (by omega:n=0\/n=1) with rfl|rfl<;>simp
 have hf:∃f,Tryz.prog.funcs.findIdx? (·.name== "internal/reflectlite"++ ".Swapper$"++toString (Lib.swapperK n ie ke))=some f:=by
  rcases (by omega:n=0\/n=1) with rfl|rfl
  ·have:Lib.swapperK 0 ie ke=1:=by simp[Lib.swapperK]
   rw[this];exact ⟨483,by kernel_rfl⟩
  ·have:Lib.swapperK 1 ie ke=2:=by simp[Lib.swapperK]
   rw[this];exact ⟨484,by kernel_rfl⟩
 obtain ⟨f,hf⟩:=hf;refine ⟨f,fun w=>?_⟩;rw[run_callFunc_extern Tryz.func428 (by kernel_rfl) (by kernel_rfl) (by kernel_rfl) (e:=Extern.ReflectliteSwapper.swapper "internal/reflectlite" (Extern.ReflectliteValue.valueError "Swapper")) (by kernel_rfl)];rw[Lib.run_swapper_slice t e i ie h1 h2 h4 ke h5 p n c f hf w,if_pos hk];rfl
theorem Oz{t:TypeId}(h:rE t)(a:Addr)(p:Option Addr)(n c:Nat)(w:World)(ha:w.cell? a=some (.slice p n c)) :
  (callFunc 429 #[.agg #[typeHandle Tryz.prog t,.pointer (some a),.int .u64 151]]).run Tryz.prog w=.ok (.value (.int .i64 n)) w:=by
 obtain ⟨e,i,ie,ke,h1,h2,h3,h4,h5⟩:=h.row;rw[run_callFunc_extern Tryz.func429 (by kernel_rfl) (by kernel_rfl) (by kernel_rfl) (e:=Extern.ReflectliteValue.method (Extern.ReflectliteValue.valueError "reflectlite.Value.Len" 0) Extern.ReflectliteValue.len) (by kernel_rfl)];rw[Lib.run_valueLen_slice t e i h1 h2 h3 a p n c w ha];rfl
theorem Tx:qc ev 20 264 [.lit (.int .u64 0)]=some (.int .i64 0):=by kernel_rfl
theorem Ty:qc ev 20 264 [.lit (.int .u64 1)]=some (.int .i64 1):=by kernel_rfl
theorem XP(g g2:Fn)(a b:Array Value)(l:Value):qc ev 20 430 [.agg [.lit (.func g a b),.lit (.func g2 #[] #[])],.lit (.int .i64 0),.lit (.int .i64 0),.lit l]=some (.tuple #[]):=by kernel_rfl
theorem XQ(g g2:Fn)(a b:Array Value)(l:Value):qc ev 20 430 [.agg [.lit (.func g a b),.lit (.func g2 #[] #[])],.lit (.int .i64 0),.lit (.int .i64 1),.lit l]=some (.tuple #[]):=by kernel_rfl
theorem xY{t:TypeId}(h:rE t)(p:Option Addr)(n c:Nat)(hn:n<=1)(g:Fn)(a b:Array Value)(w:World) :
  Calls Tryz.prog 332 #[.iface t (.slice p n c),.func g a b] w (fun e w'=>e=.returned (.tuple #[])/\Below w.heap.size w w'):=by
 obtain ⟨aU,NO,SP⟩:∃aU:Int,qc ev 20 264 [.lit (.int .u64 (n:Nat))]=some (.int .i64 aU)/\∀(g g2:Fn) (a b:Array Value) (l:Value),qc ev 20 430 [.agg [.lit (.func g a b),.lit (.func g2 #[] #[])],.lit (.int .i64 0),.lit (.int .i64 (n:Nat)),.lit l]=some (.tuple #[]):=by
  rcases (by omega:n=0\/n=1) with rfl|rfl
  ·exact ⟨0,Tx,XP⟩
  ·exact ⟨1,Ty,XQ⟩
 have V:=Fz h p n c;obtain ⟨f,S⟩:=Fq h p n c hn;have L:=fun (w:World) (x:Addr) (ha:w.cell? x=some (.slice p n c))=>Oz h x p n c w ha;have hh:∃th,typeHandle Tryz.prog t=.pointer (some th):=⟨_,rfl⟩;obtain ⟨th,Zn⟩:=hh;rw[Zn] at V L;have HB:=Lib.hid NO;have HP:=Lib.hid SP;clear NO SP;go_enter Tryz.func332,Tryz.ntmps332;go_wp2_with fail;refine (Ak U HB.out (hY _ [.int .u64 (n:Nat)] rfl) _).mono ?_;rintro e w1 ⟨rfl,iN⟩;have H1:=Lib.hid iN;clear iN;go_wp2_with fail;refine (Ak U (HP.out g (.func f) a b _) (hY _ [.agg #[.func g a b,.func (.func f) #[] #[]],.int .i64 0,.int .i64 (n:Nat),.int .i64 aU] rfl) _).mono ?_;rintro e w2 ⟨rfl,lK⟩;have H2:=Lib.hid lK;clear lK;go_wp2_with fail;refine bodyPost_end (results_none rfl _ _ _) rfl ?_;refine ⟨rfl,?_⟩;have h0:=((Below.refl _ w).alloc (Nat.le_refl _) (.cells #[.slice p n c] t)).alloc (by simp) (.cells #[.pointer (some th),.pointer (some ⟨w.heap.size,0,none⟩),.int .u64 151] 498);exact (h0.trans (H1.out.mono h0.size)).trans (H2.out.mono (Nat.le_trans h0.size H1.out.size))
theorem MH:rE 24:=⟨72,Tryz.t24,Tryz.t72,25,by kernel_rfl,rfl,by kernel_rfl,by kernel_rfl,fun w=>by kernel_rfl⟩
theorem MI:rE 25:=⟨78,Tryz.t25,Tryz.t78,25,by kernel_rfl,rfl,by kernel_rfl,by kernel_rfl,fun w=>by kernel_rfl⟩
theorem MG:rE 372:=⟨47,Tryz.t372,Tryz.t47,11,by kernel_rfl,rfl,by kernel_rfl,by kernel_rfl,fun w=>by kernel_rfl⟩
def small:AV->Bool
 | .lit (.slice none n _)=>Nat.ble n 1
 | .slice _ _ n _=>Nat.ble n 1
 | _=>false
def Fm:Nat->List AV->Option AV:=fun f args=>match Nat.beq f 332 with
 | true=>match args with
   | [.iface t s,.func _ _ _]=>match small s&&n8 [24,25,372] t with
     | true=>some (.lit (.tuple #[]))
     | false=>none
   | _=>none
 | false=>none
theorem J1:∀f args v,Fm f args=some v->∀(γ:aK) (w:World) (xs:Array Value),az γ args xs.toList->(callFunc f xs).run Tryz.prog w=.ok (.enter f xs) w/\Calls Tryz.prog f xs w (fun e w'=>∃x,e=.returned x/\an γ v x/\Below w.heap.size w w'):=by
 intro f args v h γ w xs hx;unfold Fm at h;split at h
 ·rename_i hf;have hf:=Nat.eq_of_beq_eq_true hf;subst hf;split at h
  ·rename_i t s g l m;split at h
   ·rename_i hb;simp only[Option.some.injEq] at h;subst h;rw[Bool.and_eq_true] at hb;have ht:rE t:=by
     have:=tn.1 hb.2;simp only[List.mem_cons,List.not_mem_nil,or_false] at this;rcases this with rfl|rfl|rfl
     ·exact MH
     ·exact MI
     ·exact MG
    simp only[az] at hx;obtain ⟨x,ZG,e,hc,y,ys,rfl,hd,rfl⟩:=hx;simp only[an] at hc hd;obtain ⟨sv,rfl,hs⟩:=hc;obtain ⟨a,b,rfl,_,_⟩:=hd;have EP:∃p n c,sv=.slice p n c/\n<=1:=by
     have hb:=hb.1;unfold small at hb;split at hb
     ·rw[al] at hs;exact ⟨_,_,_,hs,Nat.le_of_ble_eq_true hb⟩
     ·simp only[an] at hs;obtain ⟨ad,cc,rfl,_⟩:=hs;exact ⟨_,_,_,rfl,Nat.le_of_ble_eq_true hb⟩
     ·cases hb
    obtain ⟨p,n,c,rfl,hn⟩:=EP;obtain rfl:xs=#[.iface t (.slice p n c),.func g a b]:=Array.ext' e;refine ⟨Tryz.call332 _ w,(xY ht p n c hn g a b w).mono ?_⟩;rintro e w' ⟨rfl,hb⟩;exact ⟨_,rfl,aM γ _,hb⟩
   ·cases h
  ·cases h
 ·cases h
def Fl:Cb:=fun f args σ=>(Fm f args).map fun v=>(v,σ)
theorem J0:rB Tryz.prog Fl:=fun f args σ v cd h F γ w xs hR hx=>by
 unfold Fl at h;obtain ⟨u,h0,e⟩:=Option.map_eq_some_iff.1 h;simp only[Prod.mk.injEq] at e;obtain ⟨rfl,rfl⟩:=e;obtain ⟨c1,c2⟩:=J1 f args u h0 γ w xs hx;refine ⟨c1,fun R fj=>c2.mono ?_⟩;rintro e w' ⟨x,rfl,hc,hb⟩;exact fj γ x w' hc (hR.grown hb) (.refl γ _)
theorem Ox:vQ ev Fl 60 10 []=some (.bool true):=by kernel_rfl
theorem Hf(w:World):Calls Tryz.prog 10 #[] w (fun e w'=>e=.returned (.bool true)/\Below w.heap.size w w'):=
 yq U J0 Ox (hY [] [] rfl) w
end Go.Proofs.YtmbdghclhpboaaaGreat
namespace Go.Proofs.YtmbdghclhpboaaaGreat.Ev
open Go.RowKit
theorem Pf(w:World):aL ⟨w,fun _=>False⟩ emp (hp []) w:=
 ⟨⟨fun _ _=>rfl,fun o p h=>by simp[emp] at h,fun o h=>by simp[emp] at h,fun o o' p p' h=>by simp[emp] at h,Nat.zero_le _⟩,fun o p h=>by simp[emp] at h,⟨rfl,rfl,rfl,Nat.le_refl _,fun _ h=>h.elim,fun _ h=>h.elim,fun o p h=>by simp[emp] at h⟩⟩
theorem ag.calls{P:Program}{f:Nat}{args:List AV}{xs:List Value}{K:AV->List af->Prop}{w:World}(c:nJ P f args [.res (kq 0 w)] K)(ha:AV.jP args=some xs)(hk:∀v H',K v H'->v=.lit (.bool true)/\∃G,H'=.res (kq 0 w)::G):Calls P f xs.toArray w (fun e w'=>e=.returned (.bool true)/\Below w.heap.size w w'):=by
 obtain ⟨h1,h2,h3⟩:=FK (R:=kq 0 w) (S:=fun b=>b<w.heap.size) (T:=fun _=>False) (Pf w) (by decide) (fun _ h=>h) (fun _ h=>h.elim) ⟨fun b=>by simp,fun _ _ _=>rfl⟩ (fun b hb=>⟨fun h=>h,fun h=>h,fun o p h=>by simp[emp] at h⟩);obtain ⟨_,c2⟩:=c.out _ _ w xs.toArray h1 (fun o ho _=>by
  have:o=0:=by simpa using ho
  subst this;rw[show (0:Nat)=([]:List af).length from rfl,bu];simp) h2 (by simpa using hY args xs ha)
 refine c2 _ fun v H' aq x w' k1 k2 k3=>?_;obtain ⟨rfl,G,rfl⟩:=hk v H' k1;simp only[an] at k2;subst k2;refine ⟨rfl,?_⟩;have hF:=k3.rel.frame;obtain ⟨T,hT,_⟩:=k3.rs.out;obtain ⟨S1,_,hs,_⟩:=hT;exact ⟨hF.os,hF.tape,hF.output,hF.size,fun b hb=>hs.2 b (Nat.zero_le _) hb⟩
end Go.Proofs.YtmbdghclhpboaaaGreat.Ev
namespace Go.Proofs.YtmbdghclhpboaaaGreat
open Ev
theorem xT{S:List Nat}{H:List af}{K:AV->List af->Prop}(k:K (bA true) H):CP S 10 [] H K:=ag.Dp U rfl rfl Hf k
def Ap(q:bM):Bool:=decide ((q.ms.length:Int)<=30)&&(decide ((q.nt:Int)<=30)&&(decide ((q.rs.length:Int)<=30)&&(decide ((q.ss.length:Int)<=30)&&decide ((q.es.length:Int)<=100))))
theorem KA{q:bM}(h:Ap q=true):q.ms.length<=30/\q.nt<=30/\q.rs.length<=30/\q.ss.length<=30/\q.es.length<=100:=by
 unfold Ap at h;simp only[Bool.and_eq_true,decide_eq_true_eq] at h;omega
theorem XU{S:List Nat}{H:List af}{K:AV->List af->Prop}{q:bM}(k:K (bA (Ap q)) H):CP S 9 [.agg q.a] H K:=by
 refine ag.pure ?_ (fun _=>rfl) (fun _=>rfl) k;refine ae U rfl ?_;repeat' ((conv=>whnf);with_reducible apply aa<;>intro _)
 all_goals (try conv=>whnf)
 all_goals refine bh ?_
 all_goals unfold Ap
 all_goals simp_all
 all_goals omega
end Go.Proofs.YtmbdghclhpboaaaGreat
namespace Go.Proofs.YtmbdghclhpboaaaGreat
open Ev Go.RowKit
theorem PA{R1 R2:aH}{A B:Option Addr}{c d:Nat}{l m:List UInt8}(hl:eG Tryz.prog R1 cK 1 A zZ l)(hm:eG Tryz.prog R2 cK 1 B zZ m)(hn:l.length<=1000000000):CP [] 13 [.lit (.slice A l.length c),.lit (.slice B m.length d)] [.res R1,.res R2] (kl (bA (decide (l=m))) [.res R1,.res R2]):=by
 refine ae U rfl ?_;repeat' ((conv=>whnf);with_reducible apply aa<;>intro _)
 all_goals (try conv=>whnf)
 ·rename_i hx;have aN:l.length≠m.length:=fun e=>by rw[e] at hx;simp at hx
  exact ⟨bh (decide_eq_false fun e=>aN (by rw[e])).symm,[],rfl⟩
 ·rename_i hx;have gi:l.length=m.length:=by
   have:=bne_eq_false_iff_eq.1 hx;omega
  refine aW U rfl (fun k:Nat=>[(0,.lit (.slice A l.length c)),(1,.lit (.slice B m.length d)),(5,iA (k:Nat))]) (fun _=>[.res R1,.res R2]) (fun k=>k<=l.length/\decide (l=m)=decide (l.drop k=m.drop k)) (fun k=>l.length - k) 0 ⟨Nat.zero_le _,rfl⟩ [0,1] ⟨rfl,⟨rr,rr,rr,tU⟩,⟨ko,ko,tU⟩⟩ ?_;rintro k ⟨gT,hr⟩;by_cases hk:k<l.length
  ·have kV:k<m.length:=by omega
   obtain ⟨a,rfl,nX⟩:=hl.at hk;obtain ⟨b,rfl,dK⟩:=hm.at kV;rw[Nx gi hk kV] at hr;conv=>whnf
   refine aa (fun _=>?_) (ck hk);repeat' ((conv=>whnf);first|with_reducible apply aa<;>intro _|refine aJ.tail U 8 rfl (by kernel_rfl) ?_|refine g9.bJ U rfl rfl rfl rfl rfl hk ?_|refine g9.bJ U rfl rfl rfl rfl rfl kV ?_|refine g9.aR (i:=0) (v:=.lit (zZ l[k])) rfl (fun w S hR=>nX w S hR k hk) rfl rfl ?_|refine g9.aR (i:=1) (v:=.lit (zZ m[k])) rfl (fun w S hR=>dK w S hR k kV) rfl rfl ?_|refine g9.pure U rfl ?_|refine g9.read U rfl ?_)
   all_goals (try conv=>whnf)
   ·rename_i hy;have aN:l[k]≠m[k]:=fun e=>by rw[e] at hy;simp at hy
    exact ⟨bh (by rw[hr,decide_eq_false aN];rfl),[],rfl⟩
   ·rename_i hy;have he:l[k]=m[k]:=by
     have h1:=bne_eq_false_iff_eq.1 hy;have h2:l[k].toNat=m[k].toNat:=by omega
     exact UInt8.toNat.inj h2
    rw[decide_eq_true he,Bool.true_and] at hr;exact ⟨k+1,[0,1],⟨⟨hk,hr⟩,by omega⟩,rfl,⟨rr,rr,⟨rfl,aw rfl (aj (by omega) (by omega))⟩,tU⟩,⟨ko,ko,tU⟩⟩
  ·obtain rfl:k=l.length:=by omega
   repeat' ((conv=>whnf);first|with_reducible apply aa<;>intro _|(exfalso;exact cI hk (by assumption))|refine ae U rfl ?_)
   all_goals (try conv=>whnf)
   rw[List.drop_length,gi,List.drop_length] at hr;exact ⟨bh (by rw[hr];rfl),[],rfl⟩
theorem CD{A B:Addr}{c d:Nat}{l:List UInt8}(hn:l.length<=1000000000):CP [] 13 [.lit (.slice (some A) l.length c),.lit (.slice (some B) l.length d)] [.res (aB cj 1 cK (.slice (some A) l.length c) l),.res (aB cj 1 cK (.slice (some B) l.length d) l)] (kl (bA true) [.res (aB cj 1 cK (.slice (some A) l.length c) l),.res (aB cj 1 cK (.slice (some B) l.length d) l)]):=by
 have h:=PA (c:=c) (d:=d) (Hw (A:=A) (n:=c) (l:=l)) (Hw (A:=B) (n:=d) (l:=l)) hn;rwa [decide_eq_true rfl] at h
end Go.Proofs.YtmbdghclhpboaaaGreat
namespace Go.Proofs.YtmbdghclhpboaaaGreat
open Ev
theorem mG:rD 265 isLet:=fun c k=>by
 refine ag.pure ?_ (fun _=>rfl) (fun _=>rfl) k;refine ae U rfl ?_;repeat' ((conv=>whnf);with_reducible apply aa<;>intro _)
 all_goals
  refine bh ?_
  simp_all [isLet]
 all_goals omega
theorem tz:rD 268 bV:=fun c k=>by
 refine ag.pure ?_ (fun _=>rfl) (fun _=>rfl) k;refine ae U rfl ?_;repeat' ((conv=>whnf);with_reducible apply aa<;>intro _)
 all_goals
  refine bh ?_
  simp_all [bV]
 all_goals omega
theorem PI{s:List UInt8}{S:List Nat}{H:List af}{K:AV->List af->Prop}(k:K (bA (isWord s)) H):CP S 267 [.lit (cU s)] H K:=by
 refine ag.pure ?_ (fun _=>rfl) (fun _=>rfl) k;obtain ⟨b,hb⟩:∃b,b=isWord s:=⟨_,rfl⟩;rw[<-hb];refine ae U rfl ?_;conv=>whnf
 refine aW U rfl (fun k=>[(0,.lit (cU s)),(3,.slice 0 0 11 (.k 11)),(4,iA (k:Nat))]) (fun _=>[.row (vD.map cU) 9]) (fun k=>k<=11/\b=(vD.drop k).any (fun w=>decide (s=w))) (fun k=>11 - k) 0 ⟨Nat.zero_le _,hb⟩ [0] ?_ ?_
 ·exact ⟨rfl,⟨rr,rr,rr,tU⟩,⟨⟨_,rfl,rfl⟩,tU⟩⟩
 ·rintro k ⟨hk,he⟩;clear hb;by_cases eZ:k<11
  ·have kV:k<vD.length:=eZ;obtain ⟨u,hu⟩:∃u,u=vD[k]:=⟨_,rfl⟩;rw[List.drop_eq_getElem_cons kV,List.any_cons,<-hu] at he;repeat' ((conv=>whnf);first|with_reducible apply aa<;>intro _|refine aI.of rfl eZ ?_|(refine df.val kV ?_;rw[<-hu])|refine ae U rfl ?_)
   all_goals (try conv=>whnf)
   all_goals first
    | (exfalso;exact ck eZ (by assumption))
    | (rename_i hx;rw[oz] at hx;have hx:=of_decide_eq_true hx;refine bh ?_;rw[he,hx,decide_eq_true rfl];rfl)
    | (rename_i hx;rw[oz] at hx;have hx:=of_decide_eq_false hx;refine ⟨k+1,[0],⟨⟨eZ,?_⟩,by omega⟩,rfl,⟨rr,rr,⟨rfl,aw rfl (aj (by omega) (by omega))⟩,tU⟩,⟨⟨_,rfl,rfl⟩,tU⟩⟩;rw[he,decide_eq_false (fun h=>hx h.symm)];rfl)
  ·obtain rfl:k=11:=by omega
   repeat' ((conv=>whnf);first|with_reducible apply aa<;>intro _  | refine ae U rfl ?_)
   all_goals (try conv=>whnf)
   all_goals exact bh he.symm
theorem Pz{s:List UInt8}{i:Nat}{d:Bool}(hi:i<=s.length)(hl:s.length<=1000000){S:List Nat}{H:List af}{K:AV->List af->Prop}(k:K (iA ((s.drop i).takeWhile (if d then bV else cQ)).length) H):CP S 266 [.lit (cU s),iA (i:Nat),bA d] H K:=by
 refine ag.pure ?_ (fun _=>rfl) (fun _=>rfl) k;clear k;obtain ⟨pr,oG⟩:∃pr,pr=(if d then bV else cQ):=⟨_,rfl⟩;rw[<-oG];have Z7:d=true->pr=bV:=fun h=>by rw[oG,h];rfl
 have Z8:d=false->pr=cQ:=fun h=>by rw[oG,h];rfl
 have wq:=Ke pr (s.drop i);have Q4:=zK pr (s.drop i);have sc:=en pr (s.drop i);obtain ⟨m,hm⟩:∃m,m=(s.drop i).takeWhile pr:=⟨_,rfl⟩;rw[<-hm] at wq Q4 sc ⊢;rw[List.length_drop] at sc;clear hm oG;have dj:∀k,iu pr ((s.drop i).drop k)=if h:i+k<s.length then pr s[i+k] else false:=fun k=>by
  rw[List.drop_drop];split
  ·rename_i h;rw[List.drop_eq_getElem_cons h];rfl
  ·rename_i h;rw[List.drop_of_length_le (by omega)];rfl
 refine ae U rfl ?_;conv=>whnf
 refine aW U rfl (fun k=>[(0,.lit (cU s)),(1,iA (i:Nat)),(2,bA d),(7,iA (k:Nat))]) (fun _=>[]) (·<=m.length) (fun k=>m.length - k) 0 (Nat.zero_le _) [] ⟨rfl,⟨rr,rr,rr,rr,tU⟩,tU⟩ ?_;intro k hk;have hw:IntKind.i64.wrap ((i:Int)+(k:Int))=((i+k:Nat):Int):=aj (by omega) (by omega);by_cases eZ:k<m.length
 ·have ah:i+k<s.length:=by omega
  have hb:=wq k eZ;rw[dj,dif_pos ah] at hb;clear wq Q4 dj;repeat' ((conv=>whnf);first|with_reducible apply aa<;>intro _|refine ai.ej rfl rfl rfl rfl hw ah ?_|refine tz _ ?_|refine mG _ ?_|refine ae U rfl ?_)
  all_goals (try conv=>whnf)
  all_goals first
   | exact ⟨k+1,[],⟨eZ,Nat.sub_lt_sub_left eZ (Nat.lt_succ_self _)⟩,rfl,⟨rr,rr,rr,⟨rfl,aw rfl (aj (by omega) (by omega))⟩,tU⟩,tU⟩
   | (exfalso;rename_i hx;rw[hw] at hx;exact ck ah hx)
   | (exfalso;simp_all [cQ];done)
   | (exfalso;simp_all [cQ];omega)
 ·obtain rfl:k=m.length:=by omega
  rw[dj] at Q4;clear wq dj;by_cases ah:i+m.length<s.length
  ·rw[dif_pos ah] at Q4;repeat' ((conv=>whnf);first|with_reducible apply aa<;>intro _|refine ai.ej rfl rfl rfl rfl hw ah ?_|refine tz _ ?_|refine mG _ ?_|refine ae U rfl ?_)
   all_goals (try conv=>whnf)
   all_goals first
    | (exfalso;rename_i hx;rw[hw] at hx;exact ck ah hx)
    | (exfalso;simp_all [cQ];done)
    | (exfalso;clear hw;simp_all [cQ];omega)
    | (exfalso;clear hw;cases d<;>simp_all [cQ])
  ·repeat' ((conv=>whnf);first|with_reducible apply aa<;>intro _  | refine ae U rfl ?_)
   all_goals (try conv=>whnf)
   all_goals (exfalso;rename_i hx;rw[hw] at hx;exact cI ah hx)
def iy(s:List UInt8):Nat:=s.foldl (fun n c=>10 * n+(c.toNat - 48)) 0
theorem yN(s:List UInt8)(c:UInt8):iy (s++[c])=10 * iy s+(c.toNat - 48):=by
 unfold iy;rw[List.foldl_append];rfl
theorem Hm(s:List UInt8):qZ s=min 65536 (iy s):=by
 induction h:s.length generalizing s with
 | zero=>rw[List.length_eq_zero_iff] at h;subst h;rfl
 | succ n ih=>
   rcases List.eq_nil_or_concat s with rfl|⟨l,c,rfl⟩
   ·simp at h
   ·rw[List.concat_eq_append] at h ⊢;rw[vd,yN,ih l (by simpa using h)];omega
theorem Gu:∀(r:List UInt8) (n:Nat),n * 10 ^ r.length<=r.foldl (fun n c=>10 * n+(c.toNat - 48)) n
 | [],n=>by simp
 | c::r,n=>by
   rw[List.foldl_cons,List.length_cons,Nat.pow_succ];refine Nat.le_trans ?_ (Gu r _);rw[show n * (10 ^ r.length * 10)=(10 * n) * 10 ^ r.length by rw[Nat.mul_comm (10 ^ r.length),<-Nat.mul_assoc,Nat.mul_comm n]];exact Nat.mul_le_mul_right _ (by omega)
theorem Mv:∀(s:List UInt8),(∀c∈s,bV c=true)->s.length<=5->iy s<100000:=fun s hd hl=>by
 have hc:∀c∈s,c.toNat - 48<=9:=fun c hc=>by
  have:=of_decide_eq_true (hd c hc);omega
 match s,hl with
 | [],_=>simp[iy]
 | [a],_=>simp at hc;simp[iy];omega
 | [a,b],_=>simp at hc;simp[iy];omega
 | [a,b,c],_=>simp at hc;simp[iy];omega
 | [a,b,c,d],_=>simp at hc;simp[iy];omega
 | [a,b,c,d,e],_=>simp at hc;simp[iy];omega
def sF(s:List UInt8):Nat:=if (1<s.length/\s.headD 0=48)\/5<s.length then 65536 else iy s
theorem OJ{s:List UInt8}(hd:∀c∈s,bV c=true):(65535<sF s/\(kO s).2=false)\/(sF s<=65535/\kO s=(sF s,true)):=by
 unfold sF kO;by_cases h1:1<s.length/\s.headD 0=48
 ·rw[if_pos (.inl h1),if_pos h1];exact .inl ⟨by omega,rfl⟩
 ·rw[if_neg h1,Hm];by_cases h5:5<s.length
  ·rw[if_pos (.inr h5)];refine .inl ⟨by omega,?_⟩;obtain ⟨c,r,rfl⟩:∃c r,s=c::r:=by
    cases s with
    | nil=>simp at h5
    | cons c r=>exact ⟨c,r,rfl⟩
   have hc:=of_decide_eq_true (hd c (by simp));have ZT:c.toNat≠48:=fun h=>h1 ⟨by omega,UInt8.toNat_inj.1 h⟩;have hg:=Gu r (c.toNat - 48);have hp:10 ^ 5<=10 ^ r.length:=Nat.pow_le_pow_right (by omega) (by simp at h5;omega);have h2:1 * 10 ^ 5<=(c.toNat - 48) * 10 ^ r.length:=Nat.mul_le_mul (by omega) hp;have h3:100000<=iy (c::r):=by
    have:iy (c::r)=r.foldl (fun n c=>10 * n+(c.toNat - 48)) (c.toNat - 48):=by unfold iy;rw[List.foldl_cons];simp
    omega
   exact decide_eq_false (by show ¬min 65536 _<=65535;omega)
  ·rw[if_neg (by simp only[h1,h5,or_self,not_false_eq_true])];by_cases h6:65535<iy s
   ·exact .inl ⟨h6,decide_eq_false (by show ¬min 65536 _<=65535;omega)⟩
   ·refine .inr ⟨by omega,?_⟩;rw[show min 65536 (iy s)=iy s by omega,decide_eq_true (by omega)]
theorem JS{n:Nat}{c:UInt8}(hn:n<=1000000)(hc:bV c=true):IntKind.i64.wrap (IntKind.i64.wrap (IntKind.i64.wrap (10 * (n:Int))+IntKind.i64.wrap (c.toNat:Int)) - 48)=((10 * n+(c.toNat - 48):Nat):Int):=by
 have hc:=of_decide_eq_true hc;rw[aj (n:=(c.toNat:Int)) (by omega) (by omega),aj (n:=10 * (n:Int)) (by omega) (by omega),aj (n:=10 * (n:Int)+(c.toNat:Int)) (by omega) (by omega),aj (by omega) (by omega)];omega
theorem Pm{s:List UInt8}(hd:∀c∈s,bV c=true){S:List Nat}{H:List af}{K:AV->List af->Prop}(k:K (iA (sF s)) H):CP S 269 [.lit (cU s)] H K:=by
 refine ag.pure ?_ (fun _=>rfl) (fun _=>rfl) k;clear k;have hh:∀h:0<s.length,s.headD 0=s[0]:=fun h=>by
  cases s with
  | nil=>simp at h
  | cons c r=>rfl
 obtain ⟨v,hv⟩:∃v,v=sF s:=⟨_,rfl⟩;rw[<-hv];unfold sF at hv;by_cases h5:5<s.length
 ·rw[if_pos (.inr h5)] at hv;subst hv;refine ae U rfl ?_;repeat' ((conv=>whnf);first|with_reducible apply aa<;>intro _|refine ai.ej (k:=0) rfl rfl rfl rfl rfl (by omega) ?_|(exfalso;rename_i hx;have:=of_decide_eq_false hx;exact this (Int.ofNat_lt.2 h5))|refine ae U rfl ?_)
  all_goals (try conv=>whnf)
  all_goals rfl
 ·have ZU:s.length<=5:=by omega
  by_cases h1:1<s.length/\s.headD 0=48
  ·rw[if_pos (.inl h1)] at hv;subst hv;obtain ⟨h1,h2⟩:=h1;have h3:0<s.length:=by omega
   rw[hh h3] at h2;refine ae U rfl ?_;repeat' ((conv=>whnf);first|with_reducible apply aa<;>intro _|(refine ai.ej (k:=0) rfl rfl rfl rfl rfl h3 ?_;rw[h2])|(exfalso;rename_i hx _;have:=of_decide_eq_false hx;exact this (Int.ofNat_lt.2 h1))|refine ae U rfl ?_)
   all_goals (try conv=>whnf)
   all_goals rfl
  ·rw[if_neg (by simp only[h1,h5,or_self,not_false_eq_true])] at hv;subst hv;refine ae U rfl ?_;repeat' ((conv=>whnf);first|with_reducible apply aa<;>intro _|(rename_i hx;have h2:1<s.length:=Int.ofNat_lt.1 (of_decide_eq_true hx);refine ai.ej (k:=0) rfl rfl rfl rfl rfl (by omega) ?_)|(refine aW U rfl (fun k=>[(0,.lit (cU s)),(3,iA (iy (s.take k))),(4,iA (k:Nat))]) (fun _=>[]) (·<=s.length) (fun k=>s.length - k) 0 (Nat.zero_le _) [] ⟨rfl,⟨rr,rr,rr,tU⟩,tU⟩ ?_;intro k hk;by_cases eZ:k<s.length)|refine ai.ej rfl rfl rfl rfl rfl eZ ?_|refine ae U rfl ?_)
   all_goals (try conv=>whnf)
   all_goals first
    | (exfalso;rename_i hy;refine h1 ⟨by assumption,?_⟩;rw[hh (by omega)];exact UInt8.toNat_inj.1 (Int.ofNat.inj (eq_of_beq hy)))
    | (exfalso;rename_i hy;exact h5 (Int.ofNat_lt.1 (of_decide_eq_true hy)))
    | exact ck eZ (by assumption)
    | exact cI eZ (by assumption)
    | (have h6:=Mv (s.take k) (fun c hc=>hd c (List.mem_of_mem_take hc)) (by rw[List.length_take];omega);exact ⟨k+1,[],⟨eZ,Nat.sub_lt_sub_left eZ (Nat.lt_succ_self _)⟩,rfl,⟨rr,⟨rfl,aw rfl (by rw[JS (by omega) (hd _ (List.getElem_mem eZ)),<-yN,<-bf eZ])⟩,⟨rfl,aw rfl (aj (by omega) (by omega))⟩,tU⟩,tU⟩)
    | rw[List.take_of_length_le (by omega)]
def lF:Bool->List UInt8->Nat
 | _,[]=>0
 | m,c::l=>if m || dG c || fF c then 1+lF (gj c&&(m || fF c)) l else 0
theorem OE{c:UInt8}:gj c=false↔c.toNat=10:=by unfold gj;simp
theorem Ig:∀(l:List UInt8),lF true l=(l.takeWhile gj).length+lF false (l.drop (l.takeWhile gj).length)
 | []=>rfl
 | c::l=>by
   rw[List.takeWhile_cons];cases hc:gj c with
   | true=>
     simp only[if_true,List.length_cons,List.drop_succ_cons];rw[lF,hc,if_pos (by simp),show (true&&(true || fF c))=true by simp,Ig l];omega
   | false=>
     have vX:=OE.1 hc;have hb:dG c=true:=by unfold dG;simp[vX]
     simp only[Bool.false_eq_true,if_false,List.length_nil,List.drop_zero,Nat.zero_add];rw[lF,lF,hc,hb];simp
theorem Ie:∀(l:List UInt8),lF false l=(l.takeWhile dG).length+lF false (l.drop (l.takeWhile dG).length)
 | []=>rfl
 | c::l=>by
   rw[List.takeWhile_cons];cases hc:dG c with
   | true=>
     have hh:fF c=false:=by
      unfold dG at hc;unfold fF;have:=of_decide_eq_true hc;exact decide_eq_false (by omega)
     simp only[if_true,List.length_cons,List.drop_succ_cons];rw[lF,hc,hh,if_pos (by simp),show (gj c&&(false || false))=false by simp,Ie l];omega
   | false=>simp
theorem RV(l:List UInt8):lF false l=dW l:=by
 induction h:l.length using Nat.strongRecOn generalizing l with
 | _ n ih=>
   rw[Ie,DP];obtain ⟨a,ha⟩:∃a,a=l.takeWhile dG:=⟨_,rfl⟩;have hend:=zK dG l;rw[<-ha] at hend ⊢;obtain ⟨m,hm⟩:∃m,m=l.drop a.length:=⟨_,rfl⟩;have sc:m.length<=l.length:=by rw[hm,List.length_drop];omega
   rw[<-hm] at hend ⊢;cases hc:iu fF m with
   | false=>
     cases m with
     | nil=>rfl
     | cons c r=>
       have h1:dG c=false:=hend;have h2:fF c=false:=hc;rw[lF,h1,h2];simp
   | true=>
     have nV:=oT _ hc;have h3:lF false m=lF true m:=by
      cases m with
      | nil=>cases hc
      | cons c r=>
        have h2:fF c=true:=hc;rw[lF,lF,h2];simp
     rw[if_pos rfl,h3,Ig,ih _ (by
      rw[List.length_drop];have:=xL hc;omega) _ rfl]
     omega
theorem PC{s:List UInt8}{i:Nat}(hi:i<=s.length)(hl:s.length<=1000000){S:List Nat}{H:List af}{K:AV->List af->Prop}(k:K (iA (i+dW (s.drop i):Nat)) H):CP S 166 [.lit (cU s),iA (i:Nat)] H K:=by
 refine ag.pure ?_ (fun _=>rfl) (fun _=>rfl) k;clear k;obtain ⟨tg,ES⟩:∃tg,tg=i+dW (s.drop i):=⟨_,rfl⟩;rw[<-ES];rw[<-RV] at ES;refine ae U rfl ?_;conv=>whnf
 refine aW U rfl (fun x:Nat×Bool=>[(0,.lit (cU s)),(5,iA x.1),(6,bA x.2)]) (fun _=>[]) (fun x=>x.1<=s.length/\tg=x.1+lF x.2 (s.drop x.1)) (fun x=>s.length - x.1) (i,false) ⟨hi,ES⟩ [] ⟨rfl,⟨rr,rr,rr,tU⟩,tU⟩ ?_;rintro ⟨a,m⟩ ⟨h1,h2⟩;simp only[] at h1 h2;by_cases ah:a<s.length
 ·rw[List.drop_eq_getElem_cons ah,lF] at h2;obtain ⟨c,hc⟩:∃c,c=s[a]:=⟨_,rfl⟩;rw[<-hc] at h2;obtain ⟨V4,kU⟩:∃b,((c.toNat:Int)==32)=b:=⟨_,rfl⟩;obtain ⟨Tq,vX⟩:∃b,((c.toNat:Int)==10)=b:=⟨_,rfl⟩;obtain ⟨V5,QA⟩:∃b,((c.toNat:Int)==35)=b:=⟨_,rfl⟩;have e1:dG c=(V4 || Tq):=by unfold dG;rw[<-kU,<-vX,Bool.eq_iff_iff];simp;omega
  have e2:gj c=!Tq:=by unfold gj;rw[<-vX,Bool.eq_iff_iff];simp;omega
  have e3:fF c=V5:=by unfold fF;rw[<-QA,Bool.eq_iff_iff];simp;omega
  rw[e1,e2,e3] at h2;clear e1 e2 e3 ES;have hw:IntKind.i64.wrap ((a:Int)+1)=((a+1:Nat):Int):=aj (by omega) (by omega);cases m<;>cases V4<;>cases Tq<;>cases V5
  all_goals simp at h2
  all_goals first
   | (exfalso;simp only[beq_iff_eq] at kU vX;omega)
   | (exfalso;simp only[beq_iff_eq] at kU QA;omega)
   | (exfalso;simp only[beq_iff_eq] at vX QA;omega)
   | skip
  all_goals repeat' ((conv=>whnf);first|rw[kU]|rw[vX]|rw[QA]|with_reducible apply aa<;>intro _|(refine ai.ej rfl rfl rfl rfl rfl ah ?_;rw[<-hc]))
  all_goals (try conv=>whnf)
  all_goals first
   | (exfalso;exact ck ah (by assumption))
   | exact congrArg iA (congrArg Int.ofNat h2.symm)
   | (refine ⟨(a+1,true),[],⟨⟨ah,?_⟩,Nat.sub_lt_sub_left ah (Nat.lt_succ_self _)⟩,rfl,⟨rr,⟨rfl,aw rfl hw⟩,⟨rfl,rfl⟩,tU⟩,tU⟩;show tg=a+1+lF true (s.drop (a+1));omega)
   | (refine ⟨(a+1,false),[],⟨⟨ah,?_⟩,Nat.sub_lt_sub_left ah (Nat.lt_succ_self _)⟩,rfl,⟨rr,⟨rfl,aw rfl hw⟩,⟨rfl,rfl⟩,tU⟩,tU⟩;show tg=a+1+lF false (s.drop (a+1));omega)
   | trace_state
 ·obtain rfl:a=s.length:=by omega
  have h2:tg=s.length:=by rw[h2,List.drop_length];cases m<;>rfl
  repeat' ((conv=>whnf);first|with_reducible apply aa<;>intro _  | refine ae U rfl ?_)
  all_goals (try conv=>whnf)
  all_goals first
   | (exfalso;exact cI ah (by assumption))
   | exact congrArg iA (congrArg Int.ofNat h2.symm)
def iT(s:List UInt8)(i:Nat):Pt:=Pt.zero.ju (s.take i)
theorem Rq{s:List UInt8}{i:Nat}(h:i<=s.length):(iT s i).i=i:=by
 unfold iT;rw[Pt.uB,List.length_take,Nat.min_eq_left h];exact Nat.zero_add _
theorem Mh(s:List UInt8)(i:Nat):(iT s i).low:=Pt.n7 _ Pt.xH
theorem xR(s:List UInt8)(i j:Nat):iT s (i+j)=(iT s i).ju ((s.drop i).take j):=by
 unfold iT;rw[List.take_add,Pt.vH]
theorem Fc{s:List UInt8}{i:Nat}(hi:i<=s.length)(hl:s.length<=4611686018427387904){S:List Nat}{H:List af}{K:AV->List af->Prop}(k:K (.agg [iA (iT s i).line,iA (iT s i).aS]) H):CP S 96 [.lit (cU s),iA (i:Nat)] H K:=by
 refine ag.pure ?_ (fun _=>rfl) (fun _=>rfl) k;clear k;refine ae U rfl ?_;conv=>whnf
 refine aW U rfl (fun k=>[(0,.lit (cU s)),(1,iA (i:Nat)),(4,.ptr 0 0),(5,.ptr 1 0),(6,iA (k:Nat))]) (fun k=>[.cells [iA 0,iA 0] 84,.cells [iA (iT s k).line,iA (iT s k).aS] 84]) (·<=i) (fun k=>i - k) 0 (Nat.zero_le _) [0,1] ⟨rfl,⟨rr,rr,rr,rr,rr,tU⟩,⟨⟨_,rfl,rfl⟩,⟨_,rfl,rfl⟩,tU⟩⟩ ?_;intro k hk;by_cases eZ:k<i
 ·have ah:k<s.length:=by omega
  have hp:iT s (k+1)=(iT s k).step s[k]:=by
   rw[xR,List.drop_eq_getElem_cons ah];rfl
  obtain ⟨SL,SM⟩:=Mh s k;rw[Rq (by omega)] at SL SM;obtain ⟨q,hq⟩:∃q,q=iT s k:=⟨_,rfl⟩;simp only[];rw[<-hq] at hp SL SM ⊢;repeat' ((conv=>whnf);first|with_reducible apply aa<;>intro _|refine ai.ej rfl rfl rfl rfl rfl ah ?_|refine ae U rfl ?_)
  all_goals (try conv=>whnf)
  all_goals first
   | exact ck eZ (by assumption)
   | (rename_i hx
      have EU:s[k].toNat=10:=Int.ofNat.inj (eq_of_beq hx)
      refine ⟨k+1,[0,1],⟨eZ,Nat.sub_lt_sub_left eZ (Nat.lt_succ_self _)⟩,rfl,⟨rr,rr,rr,rr,⟨rfl,aw rfl (aj (by omega) (by omega))⟩,tU⟩,⟨⟨_,rfl,rfl⟩,⟨_,rfl,?_⟩,tU⟩⟩
      rw[hp];unfold Pt.step;rw[if_pos EU,if_pos EU,aj (by omega) (by omega)];rfl)
   | (rename_i hx
      have EU:¬s[k].toNat=10:=fun h=>ne_of_beq_false hx (congrArg Int.ofNat h)
      refine ⟨k+1,[0,1],⟨eZ,Nat.sub_lt_sub_left eZ (Nat.lt_succ_self _)⟩,rfl,⟨rr,rr,rr,rr,⟨rfl,aw rfl (aj (by omega) (by omega))⟩,tU⟩,⟨⟨_,rfl,rfl⟩,⟨_,rfl,?_⟩,tU⟩⟩
      rw[hp];unfold Pt.step;rw[if_neg EU,if_neg EU,aj (by omega) (by omega)];rfl)
   | trace_state
 ·obtain rfl:k=i:=by omega
  repeat' ((conv=>whnf);first|with_reducible apply aa<;>intro _|(exfalso;exact cI eZ (by assumption))|refine ae U rfl ?_)
  all_goals (try conv=>whnf)
  all_goals rfl
def M8(l:List UInt8)(v:AV):Prop:=∃t,v=.tuple [.agg (D1 t),iA (b9 l).2]/\((b9 l).2=0->t=(b9 l).1)
theorem RX{s:List UInt8}{i:Nat}(h:i<s.length)(hl:s.length<=1000000):CP [] 167 [.lit (cU s),iA (i:Nat)] [] (fun v _=>M8 (s.drop i) v):=by
 obtain ⟨c,hc⟩:∃c,c=s[i]:=⟨_,rfl⟩;obtain ⟨r,hr⟩:∃r,r=s.drop (i+1):=⟨_,rfl⟩;have hd:s.drop i=c::r:=by rw[List.drop_eq_getElem_cons h,<-hr,<-hc]
 unfold M8;have cut:∀pr:UInt8->Bool,(s.take (i+((s.drop i).takeWhile pr).length)).drop i=(s.drop i).takeWhile pr:=fun pr=>by
  rw[List.drop_take,Nat.add_sub_cancel_left,<-pS]
 have hle:∀pr:UInt8->Bool,i+((s.drop i).takeWhile pr).length<=s.length:=fun pr=>by
  have:=en pr (s.drop i);rw[List.length_drop] at this;omega
 cases h1:isLet c with
 | true=>
   have e:b9 (s.drop i)=(⟨if isWord ((s.drop i).takeWhile cQ) then 2 else 1,(s.drop i).takeWhile cQ,0,0,0⟩,if 16<((s.drop i).takeWhile cQ).length then 2 else 0):=by
    rw[hd];unfold b9;simp only[h1,if_true]
   rw[e];have hcut:=cut cQ;have gd:=hle cQ;have cW:=@Pz s i false (by omega) hl;simp only[Bool.false_eq_true,if_false] at cW;obtain ⟨w,hw⟩:∃w,w=(s.drop i).takeWhile cQ:=⟨_,rfl⟩;rw[<-hw] at hcut gd cW ⊢;clear e cut hle hw hd hr;have Ha:IntKind.i64.wrap ((i:Int)+(w.length:Int))=((i+w.length:Nat):Int):=aj (by omega) (by omega);by_cases y8:16<w.length<;>cases hb:isWord w;all_goals
    simp only[y8,if_true,if_false]
    refine ae U rfl ?_
    repeat' ((conv=>whnf);first|with_reducible apply aa<;>intro _|(refine ai.ej rfl rfl rfl rfl rfl h ?_;rw[<-hc])|(refine mG _ ?_;rw[h1])|refine cW ?_|(refine ai.xZ rfl rfl rfl rfl rfl rfl Ha (Nat.le_add_right _ _) gd ?_;rw[hcut])|(refine PI ?_;rw[hb])|refine ae U rfl ?_)
    all_goals (try conv=>whnf)
    all_goals first
     | exact ⟨⟨0,w,0,0,0⟩,rfl,fun h=>(nomatch h)⟩
     | exact ⟨⟨1,w,0,0,0⟩,rfl,fun _=>rfl⟩
     | exact ⟨⟨2,w,0,0,0⟩,rfl,fun _=>rfl⟩
     | (exfalso;rename_i hx;exact of_decide_eq_false hx (Int.ofNat_lt.2 y8))
     | (exfalso;rename_i hx;exact y8 (Int.ofNat_lt.1 (of_decide_eq_true hx)))
     | trace_state
 | false=>
   cases h2:bV c with
   | true=>
     have e:b9 (s.drop i)=if (kO ((s.drop i).takeWhile bV)).2 then (⟨3,(s.drop i).takeWhile bV,(kO ((s.drop i).takeWhile bV)).1,0,0⟩,0) else (⟨3,(s.drop i).takeWhile bV,0,0,0⟩,10):=by
      rw[hd];unfold b9;simp only[h1,h2,if_true,Bool.false_eq_true,if_false]
     rw[e];have hcut:=cut bV;have gd:=hle bV;have cW:=@Pz s i true (by omega) hl;simp only[if_true] at cW;have Uv:=Fx bV (s.drop i);obtain ⟨w,hw⟩:∃w,w=(s.drop i).takeWhile bV:=⟨_,rfl⟩;rw[<-hw] at hcut gd cW Uv ⊢;have SO:=@Pm w Uv;have hrel:=OJ Uv;clear e cut hle hw hd hr;have Ha:IntKind.i64.wrap ((i:Int)+(w.length:Int))=((i+w.length:Nat):Int):=aj (by omega) (by omega);obtain ⟨v,hv⟩:∃v,v=sF w:=⟨_,rfl⟩;rw[<-hv] at SO hrel;clear hv;rcases hrel with ⟨hb,hn⟩|⟨hb,hn⟩;all_goals
      rw[hn]
      simp only[if_true,Bool.false_eq_true,if_false]
      refine ae U rfl ?_
      repeat' ((conv=>whnf);first|with_reducible apply aa<;>intro _|(refine ai.ej rfl rfl rfl rfl rfl h ?_;rw[<-hc])|(refine mG _ ?_;rw[h1])|(refine tz _ ?_;rw[h2])|refine cW ?_|(refine ai.xZ rfl rfl rfl rfl rfl rfl Ha (Nat.le_add_right _ _) gd ?_;rw[hcut])|refine SO ?_|refine ae U rfl ?_)
      all_goals (try conv=>whnf)
      all_goals first
       | exact ⟨⟨0,w,0,0,0⟩,rfl,fun h=>(nomatch h)⟩
       | exact ⟨⟨3,w,v,0,0⟩,rfl,fun _=>rfl⟩
       | (exfalso;rename_i hx;have:=of_decide_eq_false hx;omega)
       | (exfalso;rename_i hx;have:=of_decide_eq_true hx;omega)
       | trace_state
   | false=>
     have e:b9 (s.drop i)=if c.toNat=61\/c.toNat=43\/c.toNat=59 then (⟨4,[c],0,0,0⟩,0) else if c.toNat=46/\r.head?=some 46 then (⟨4,[46,46],0,0,0⟩,0) else (Tk.none,30):=by
      rw[hd];unfold b9;simp only[h1,h2,Bool.false_eq_true,if_false]
     rw[e];clear cut hle e;have e6:(s.take (i+1)).drop i=[c]:=by rw[List.drop_take,Nat.add_sub_cancel_left,hd];rfl
     have wv:IntKind.i64.wrap ((i:Int)+1)=((i+1:Nat):Int):=aj (by omega) (by omega);have jR:∀h2:i+1<s.length,r.head?=some s[i+1]:=fun h2=>by rw[hr,List.drop_eq_getElem_cons h2];rfl
     have pF:s.length<=i+1->r=[]:=fun h2=>by rw[hr,List.drop_of_length_le h2]
     clear hd hr;by_cases hm:c.toNat=61\/c.toNat=43\/c.toNat=59
     ·simp only[hm,if_true];refine ae U rfl ?_;repeat' ((conv=>whnf);first|with_reducible apply aa<;>intro _|(refine ai.ej rfl rfl rfl rfl rfl h ?_;rw[<-hc])|(refine mG _ ?_;rw[h1])|(refine tz _ ?_;rw[h2])|(refine ai.xZ rfl rfl rfl rfl rfl rfl wv (Nat.le_succ _) h ?_;rw[e6])|refine ae U rfl ?_)
      all_goals (try conv=>whnf)
      all_goals first
       | exact ⟨⟨4,[c],0,0,0⟩,rfl,fun _=>rfl⟩
       | (exfalso;simp only[beq_eq_false_iff_ne,ne_eq] at *;omega)
     ·simp only[hm,if_false];by_cases hn:c.toNat=46/\r.head?=some 46
      ·simp only[hn,and_self,if_true];have h5:i+1<s.length:=by
        rcases Nat.lt_or_ge (i+1) s.length with h5|h5
        ·exact h5
        ·rw[pF h5] at hn;cases hn.2
       have hb:s[i+1]=46:=by rw[jR h5] at hn;exact Option.some.inj hn.2
       have WR:c=46:=UInt8.toNat_inj.1 (by rw[hn.1];rfl);clear jR pF hn hm;subst WR;refine ae U rfl ?_;repeat' ((conv=>whnf);first|with_reducible apply aa<;>intro _|(refine ai.ej (k:=i) rfl rfl rfl rfl rfl h ?_;rw[<-hc])|(refine ai.ej (k:=i+1) rfl rfl rfl rfl wv h5 ?_;rw[hb])|(refine mG _ ?_;rw[h1])|(refine tz _ ?_;rw[h2])|refine ae U rfl ?_)
       all_goals (try conv=>whnf)
       all_goals first
        | exact ⟨⟨4,[46,46],0,0,0⟩,rfl,fun _=>rfl⟩
        | (exfalso;rename_i hx;rw[wv] at hx;exact ck h5 hx)
      ·simp only[hn,if_false];refine ae U rfl ?_;repeat' ((conv=>whnf);first|with_reducible apply aa<;>intro _|(refine ai.ej (k:=i) rfl rfl rfl rfl rfl h ?_;rw[<-hc])|(exfalso;simp only[beq_iff_eq] at *;omega)|(rename_i hx _;rw[wv] at hx;have h5:=Int.ofNat_lt.1 (of_decide_eq_true hx);refine ai.ej (k:=i+1) rfl rfl rfl rfl wv h5 ?_)|(refine mG _ ?_;rw[h1])|(refine tz _ ?_;rw[h2])|refine ae U rfl ?_)
       all_goals (try conv=>whnf)
       all_goals first
        | exact ⟨Tk.none,rfl,fun h=>(nomatch h)⟩
        | (exfalso;rename_i hz hy;refine hn ⟨Int.ofNat.inj (eq_of_beq hz),?_⟩;rw[jR h5];exact congrArg some (UInt8.toNat_inj.1 (Int.ofNat.inj (eq_of_beq hy))))
end Go.Proofs.YtmbdghclhpboaaaGreat
