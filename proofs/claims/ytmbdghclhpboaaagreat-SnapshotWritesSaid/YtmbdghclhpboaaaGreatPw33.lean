/- Part of the proof: Grt Tn. Conditions: as each states. -/
import Derived.Test.YtmbdghclhpboaaaGreatPw32
set_option linter.all false
set_option maxRecDepth 100000
namespace Go.Proofs.YtmbdghclhpboaaaGreat
open Ev
theorem OO{pl:List (Value×List Bx)}{A:Option Addr}{l:List Bx}{m:Nat}(hh:∃w S,(ay pl).at_ w S)(im:l≠[]->(.slice A l.length m,l)∈pl):rf (ay pl) A l where
 rd:=eG.lay U (fun _=>rfl) Kt fun aN=>by
  obtain ⟨w0,S0,h0⟩:=hh;obtain ⟨b,off,rfl,_⟩:=wI (im aN) aN w0 S0 h0;refine ⟨b,off,rfl,fun w S h=>?_⟩;obtain ⟨b',KO,e,hl⟩:=wI (im aN) aN w S h;simp only[Option.some.injEq,Addr.mk.injEq] at e;obtain ⟨rfl,rfl,_⟩:=e;exact hl
 lay:=fun aN w S h=>wI (im aN) aN w S h
def Rl.ok(x:Rl):Bool:=
 if x.kind=6 then decide (x.jT<=255)&&(decide (x.lo=0)&&(decide (x.hi=0)&&(decide (x.labels=0)&&(decide (x.boxes.length=0)&&decide (x.bO=0)))))
 else if x.kind=4\/x.kind=5 then decide (x.jT<=255)&&(decide (x.lo<=x.hi)&&(decide (x.hi<=7)&&(decide (x.labels<=255)&&(x.boxes.all kI&&decide (x.bO<=16)))))
 else false
def VB(y:cL):List AV:=[iA y.x.kind,iA y.x.jT,iA y.x.lo,iA y.x.hi,iA y.x.labels,.lit y.v,iA y.x.bO]
theorem PG{R:aH}{y:cL}(h:rf R y.A y.x.boxes)(hl:y.x.boxes.length<=1000000):CP [] 222 [.agg (VB y)] [.res R] (fun v H'=>v=bA y.x.ok/\∃G,H'=.res R::G):=by
 refine ae U rfl ?_;repeat' ((conv=>whnf);first|with_reducible apply aa<;>intro _|(refine (Ab (m:=y.m) h.rd hl).use [0] rfl rfl ⟨ko,tU⟩ ?_;rintro _ _ ⟨rfl,G,rfl⟩;refine ⟨[],?_⟩)|refine ae U rfl ?_)
 all_goals (try conv=>whnf)
 all_goals refine ⟨bh ?_,_,rfl⟩
 all_goals simp only[decide_eq_true_eq,decide_eq_false_iff_not,beq_iff_eq,beq_eq_false_iff_ne] at *
 all_goals unfold Rl.ok
 all_goals first
  | rw[if_pos (by omega)]
  | rw[if_neg (by omega),if_pos (by omega)]
  | rw[if_neg (by omega),if_neg (by omega)]
 all_goals simp only[Bool.and_eq_true,Bool.and_eq_false_iff,eq_comm (a:=true),eq_comm (a:=false),decide_eq_true_eq,decide_eq_false_iff_not]
 all_goals first|omega|(simp only[*,true_and,Bool.true_eq_false,Bool.false_eq_true,false_and,or_true,true_or,and_false];omega)|simp_all
theorem uz.bx{pl:List (Value×List Bx)}{y:cL}(h:uz pl y)(hh:∃w S,(ay pl).at_ w S):rf (ay pl) y.A y.x.boxes:=OO (m:=y.m) hh h.2.1
theorem Sm:∃r,ev.ty fN=some r/\r.info.size=7/\bG r.bg=true:=⟨_,rfl,rfl,rfl⟩
theorem KP{A:Option Addr}{m:Nat}{rs:List cL}(hh:∃w S,(aB eD 7 fN (.slice A rs.length m) rs).at_ w S):eG Tryz.prog (aB eD 7 fN (.slice A rs.length m) rs) fN 7 A (fun y=>.agg (eD y).toArray) rs:=
 eG.sl U (c:=m) (fun _=>rfl) Sm (fun w S h=>⟨_,Own.sl h.1⟩) hh
theorem yR{pl:List (Value×List Bx)}{A:Option Addr}{m:Nat}{rs:List cL}(hb:∀y∈rs,uz pl y)(hl:rs.length<=1000):CP [] 128 [.lit (.slice A rs.length m)] [.res (ay pl),.res (aB eD 7 fN (.slice A rs.length m) rs)] (fun v H'=>v=bA (rs.all fun y=>y.x.ok)/\∃G,H'=[.res (ay pl),.res (aB eD 7 fN (.slice A rs.length m) rs)]++G):=by
 refine ag.nZ 0 rfl (fun w S h=>(⟨w,S,h⟩:∃w S,(ay pl).at_ w S)) fun hp=>?_;refine ag.nZ 1 rfl (fun w S h=>KP ⟨w,S,h⟩) fun AR=>?_;refine ae U rfl ?_;conv=>whnf
 refine aW U rfl (fun k:Nat=>[(5,.lit (.slice A rs.length m)),(6,iA rs.length),(7,iA (k:Nat))]) (fun _=>[.res (ay pl),.res (aB eD 7 fN (.slice A rs.length m) rs)]) (fun k=>k<=rs.length/\(rs.all fun y=>y.x.ok)=((rs.drop k).all fun y=>y.x.ok)) (fun k=>rs.length - k) 0 ⟨Nat.zero_le _,rfl⟩ [0,1] ?_ ?_
 ·exact ⟨rfl,⟨rr,rr,rr,tU⟩,⟨ko,ko,tU⟩⟩
 ·rintro k ⟨gT,hr⟩;by_cases hk:k<rs.length
  ·obtain ⟨a,rfl,bq⟩:=AR.at hk;have hm:rs[k]∈rs:=List.getElem_mem hk;rw[List.drop_eq_getElem_cons hk,List.all_cons] at hr;conv=>whnf
   refine aa (fun _=>?_) (ck hk);repeat' ((conv=>whnf);first|with_reducible apply aa<;>intro _|refine ai.bJ U rfl rfl rfl rfl rfl hk ?_|refine ai.aR (i:=1) (v:=.agg (VB rs[k])) rfl (fun w S hR=>bq w S hR k hk) rfl rfl ?_|(refine (PG ((hb _ hm).bx hp) (hb _ hm).2.2).use [0] rfl rfl ⟨ko,tU⟩ ?_;rintro _ _ ⟨rfl,G,rfl⟩;refine ⟨[],?_⟩))
   all_goals (try conv=>whnf)
   all_goals
    rename_i hx
    rw[hx] at hr
   ·exact ⟨k+1,[0,1],⟨⟨hk,by rw[hr,Bool.true_and]⟩,by omega⟩,rfl,⟨rr,rr,⟨rfl,aw rfl (aj (by omega) (by omega))⟩,tU⟩,⟨ko,ko,tU⟩⟩
   ·exact ⟨bh (by rw[hr];rfl),_,rfl⟩
  ·obtain rfl:k=rs.length:=by omega
   rw[List.drop_length] at hr;conv=>whnf
   refine aa (cI hk) (fun _=>?_);conv=>whnf
   exact ⟨bh (by rw[hr];rfl),_,rfl⟩
theorem RH{R:aH}{pl:List (Value×List Bx)}{A:Option Addr}{l:List Bx}{m:Nat}(h:rf R A l)(hn:l=[]->(.slice A l.length m:Value)=aO)(hl:l.length<=1000000) :
  CP [] 129 [.lit (.slice A l.length m)] [.res R,.res (ay pl)] (fun v H'=>∃A' m' eu,v=.lit (.slice A' l.length m')/\(l=[]->(.slice A' l.length m':Value)=aO)/\(∀p∈pl,p∈eu)/\(l≠[]->(.slice A' l.length m',l)∈eu)/\∃G,H'=.res R::.res (ay eu)::G):=by
 cases l with
 | nil=>
   have e:=hn rfl;rw[e];refine ae U rfl ?_;repeat' ((conv=>whnf);with_reducible apply aa<;>intro _)
   all_goals (try conv=>whnf)
   exact ⟨none,0,pl,rfl,fun _=>rfl,fun _ h=>h,fun h=>absurd rfl h,_,rfl⟩
 | cons b l=>
   obtain ⟨a0,rfl,_⟩:=h.rd.at (k:=0) (Nat.succ_pos _);refine ae U rfl ?_;repeat' ((conv=>whnf);first|with_reducible apply aa<;>intro _|(refine ai.om (eU.V3 U mn po (by decide) Eg (i:=1) (j:=0) (l:=b::l) (R':=fun v'=>ay (pl++[(v',b::l)])) rfl rfl rfl (by simp) rfl rfl (h.lay (by simp)) (fun v' w S1 S2 h1 h2 hd=>qB w S1 S2 h1 h2 hd) (by omega) ?_);intro A' m'))
   all_goals (try conv=>whnf)
   exact ⟨some A',m',_,rfl,fun h=>absurd h (by simp),fun p hp=>by simp[hp],fun _=>by simp,_,rfl⟩
abbrev VI:TypeId:=217
def cL.zero:cL:=⟨⟨0,0,0,0,0,[],0⟩,none,0⟩
structure Ye where
 k:Nat
 ys:List cL
 np:List (Value×List Bx)
theorem PM{α:Type}{ys:List α}{n k:Nat}{z y:α}(h:ys.length=k)(hk:k<n):(ys++List.replicate (n - k) z).set k y=ys++[y]++List.replicate (n - (k+1)) z:=by
 subst h;rw[show n - ys.length=(n - (ys.length+1))+1 by omega,List.replicate_succ];simp
def SG(ys:List cL)(np:List (Value×List Bx)):List af:=[.cells [.slice 1 0 ys.length (.k ys.length),.map 3] VI,.row (ys.flatMap eD) fN,.res (ay np),.map [] 0]
def AB(a:Addr)(ys:List cL)(np:List (Value×List Bx)):aH:=AtR a 0 (SG ys np)
structure Lf(l:List Rl)(ys:List cL)(np:List (Value×List Bx)):Prop where
 x:ys.map cL.x=l
 b:∀y∈ys,uz np y
theorem Ug{pl:List (Value×List Bx)}{A:Option Addr}{m:Nat}{rs:List cL}(hb:∀y∈rs,uz pl y)(hl:rs.length<=32)(fw:(rs.all fun y=>y.x.ok)=true):CP [] 50 [.lit (.slice A rs.length m)] [.res (ay pl),.res (aB eD 7 fN (.slice A rs.length m) rs)] (fun v H'=>v=.tuple [.ptr 5 0,iA 0]/\∃ys np G,Lf (rs.map cL.x) ys np/\H'=[.res (ay pl),.res (aB eD 7 fN (.slice A rs.length m) rs),.row (ys.flatMap eD) fN,.res (ay np),.map [] 0,.cells [.slice 2 0 ys.length (.k ys.length),.map 4] VI]++G):=by
 refine ag.nZ 0 rfl (fun w S h=>(⟨w,S,h⟩:∃w S,(ay pl).at_ w S)) fun hp=>?_;refine ag.nZ 1 rfl (fun w S h=>KP ⟨w,S,h⟩) fun AR=>?_;refine ae U rfl ?_;repeat' ((conv=>whnf);first|with_reducible apply aa<;>intro _|(refine (yR hb (by omega)).use [0,1] rfl rfl ⟨ko,ko,tU⟩ ?_;rintro _ _ ⟨rfl,G,rfl⟩;refine ⟨[],?_⟩;rw[fw])|refine ai.make rfl rfl rfl rfl rfl rfl (by omega) rfl rfl rfl ?_)
 ·rename_i hx;exact absurd (of_decide_eq_true hx) (by omega)
 ·refine aJ.pre (fP.same (H2:=[.res (ay pl),.res (aB eD 7 fN (.slice A rs.length m) rs),.row ((List.replicate rs.length cL.zero).flatMap eD) fN]) (congrArg (fun l=>List.map vw [.res (ay pl),.res (aB eD 7 fN (.slice A rs.length m) rs),.cells l fN]) (DA (enc:=eD) (y:=cL.zero) (cs:=(ofValue (Value.agg #[.int .i64 0,.int .i64 0,.int .i64 0,.int .i64 0,.int .i64 0,.slice none 0 0,.int .i64 0])).cells) rfl rs.length)) (.of_eq rfl)) ?_;refine aJ.pre (fP.more (R:=ay []) rfl (bc.jn oh _)) ?_;refine aW U rfl (fun s:Ye=>[(4,.slice 2 0 rs.length (.k rs.length)),(18,.lit (.slice A rs.length m)),(19,iA rs.length),(20,iA (s.k:Nat))]) (fun s=>[.res (ay pl),.res (aB eD 7 fN (.slice A rs.length m) rs),.row ((s.ys++List.replicate (rs.length - s.k) cL.zero).flatMap eD) fN,.res (ay s.np)])
   (fun s=>s.k<=rs.length/\s.ys.length=s.k/\s.ys.map cL.x=(rs.take s.k).map cL.x/\∀y∈s.ys,uz s.np y) (fun s=>rs.length - s.k) ⟨0,[],[]⟩ ⟨Nat.zero_le _,rfl,rfl,fun y hy=>by simp at hy⟩ [0,1,2,3] ?_ ?_
  ·exact ⟨rfl,⟨rr,rr,rr,rr,tU⟩,⟨ko,ko,⟨_,rfl,rfl⟩,ko,tU⟩⟩
  ·rintro ⟨k,ys,np⟩ ⟨gT,Hb,Vf,Ve⟩;simp only[] at gT Hb Vf Ve;by_cases hk:k<rs.length
   ·obtain ⟨a,rfl,bq⟩:=AR.at hk;have hm:rs[k]∈rs:=List.getElem_mem hk;have AQ:=hb _ hm;have o9:(ys++List.replicate (rs.length - k) cL.zero).length=rs.length:=by rw[List.length_append,List.length_replicate];omega
    have nU:0+k * 7+7<=((ys++List.replicate (rs.length - k) cL.zero).flatMap eD).length:=by rw[eL mH,o9];omega
    have wm:∀y,setFrom ((ys++List.replicate (rs.length - k) cL.zero).flatMap eD) (0+k * 7) (eD y)=(ys++[y]++List.replicate (rs.length - (k+1)) cL.zero).flatMap eD:=fun y=>by
     rw[Nat.zero_add,BN mH _ _ _ (by omega),PM Hb hk]
    conv=>whnf
    refine aa (fun _=>?_) (ck hk);repeat' ((conv=>whnf);first|with_reducible apply aa<;>intro _|refine ai.bJ U rfl rfl rfl rfl rfl hk ?_|refine ai.aR (i:=1) (v:=.agg (VB rs[k])) rfl (fun w S hR=>bq w S hR k hk) rfl rfl ?_|(refine (RH (pl:=np) (m:=rs[k].m) (AQ.bx hp) AQ.1 AQ.2.2).use [0,3] rfl rfl ⟨ko,ko,tU⟩ ?_;rintro _ _ ⟨A',m',Zw,rfl,Jm,QZ,W7,G',rfl⟩;refine ⟨[],?_⟩)|refine aI.of (k:=k) rfl hk ?_|refine ai.KZ (off:=0+k * 7) (vs:=eD ⟨rs[k].x,A',m'⟩) rfl rfl rfl rfl rfl rfl rfl rfl nU rfl ?_)
    all_goals (try conv=>whnf)
    refine ⟨⟨k+1,ys++[⟨rs[k].x,A',m'⟩],Zw⟩,[0,1,2,3],⟨⟨hk,by simp[Hb],by show _=(rs.take (k+1)).map cL.x;rw[List.map_append,Vf,bf hk,List.map_append];rfl,fun y hy=>?_⟩,by show rs.length - (k+1)<rs.length - k;omega⟩,rfl,⟨rr,rr,rr,⟨rfl,aw rfl (aj (by dsimp only;omega) (by dsimp only;omega))⟩,tU⟩,⟨ko,ko,⟨_,rfl,?_⟩,ko,tU⟩⟩
    ·rcases List.mem_append.1 hy with h|h
     ·exact (Ve y h).more QZ
     ·rw[List.mem_singleton.1 h];exact ⟨Jm,W7,AQ.2.2⟩
    ·show rh (af.row (setFrom ((ys++List.replicate (rs.length - k) cL.zero).flatMap eD) (0+k * 7) (eD ⟨rs[k].x,A',m'⟩)) fN) (af.row ((ys++[(⟨rs[k].x,A',m'⟩:cL)]++List.replicate (rs.length - (k+1)) cL.zero).flatMap eD) fN)
     rw[wm];exact rfl
   ·obtain rfl:k=rs.length:=by omega
    conv=>whnf
    refine aa (cI hk) (fun _=>?_);repeat' ((conv=>whnf);with_reducible apply aa<;>intro _)
    all_goals (try conv=>whnf)
    have e:ys++List.replicate (rs.length - rs.length) cL.zero=ys:=by simp
    refine ⟨rfl,ys,np,[],⟨by rw[Vf,List.take_length],Ve⟩,?_⟩;show [af.res (ay pl),af.res (aB eD 7 fN (Value.slice A rs.length m) rs),af.row ((ys++List.replicate (rs.length - rs.length) cL.zero).flatMap eD) fN,af.res (ay np),af.map [] 0,af.cells [AV.slice 2 0 rs.length (o0.k rs.length),AV.map 4] VI]=_
    rw[e,Hb];rfl
theorem SF{pl:List (Value×List Bx)}{A:Option Addr}{m:Nat}{rs:List cL}(hb:∀y∈rs,uz pl y)(hl:rs.length<=32):CP [] 50 [.lit (.slice A rs.length m)] [.res (ay pl),.res (aB eD 7 fN (.slice A rs.length m) rs)] (fun v H'=>((rs.all fun y=>y.x.ok)=true/\∃a ys np,v=.tuple [.lit (.pointer (some a)),iA 0]/\Lf (rs.map cL.x) ys np/\H'=[.res (ay pl),.res (aB eD 7 fN (.slice A rs.length m) rs),.res (AB a ys np)])\/((rs.all fun y=>y.x.ok)=false/\v=.tuple [.lit (.pointer none),iA 1]/\∃G,H'=[.res (ay pl),.res (aB eD 7 fN (.slice A rs.length m) rs)]++G)):=by
 cases fw:rs.all fun y=>y.x.ok with
 | false=>
   refine ae U rfl ?_;repeat' ((conv=>whnf);first|with_reducible apply aa<;>intro _|(refine (yR hb (by omega)).use [0,1] rfl rfl ⟨ko,ko,tU⟩ ?_;rintro _ _ ⟨rfl,G,rfl⟩;refine ⟨[],?_⟩;rw[fw]))
   all_goals (try conv=>whnf)
   ·rename_i hx;exact absurd (of_decide_eq_true hx) (by omega)
   ·exact .inr ⟨rfl,rfl,_,rfl⟩
 | true=>
   refine ag.lower (Ug hb hl fw) ?_;rintro _ _ ⟨rfl,ys,np,G,hi,rfl⟩;exact ⟨[0,1],[5,2,3,4],5,0,SG ys np,[iA 0],⟨rfl,rfl,⟨⟨_,rfl,rfl⟩,⟨_,rfl,rfl⟩,tU⟩,⟨⟨_,rfl,rfl⟩,⟨_,rfl,rfl⟩,⟨_,rfl,rfl⟩,⟨_,rfl,rfl⟩,tU⟩,bc.cons _ (bc.cons _ (bc.dx _ [none,none,some 1,none] rfl)),fun _=>rfl⟩,rfl,fun a=>.inl ⟨rfl,a,ys,np,rfl,hi,rfl⟩⟩
abbrev ML:TypeId:=127
abbrev iw(a:Addr):AV:=.lit (.pointer (some a))
abbrev JH(x:Addr):Value:=.pointer (some x)
def mU(tb:List (Addr×List dN)):aH:=aH.star (tb.map fun t=>wY t.1 t.2)
structure Tn where
 wT:Addr
 wJ:Addr
 y5:Addr
 vW:Addr
 xS:Addr
 x8:Addr
 M:List (Int×Mem)
 ts:List (Int×Addr)
 tb:List (Addr×List dN)
 ns:List PN
 PB:List (Int×cw)
 T:QT
 CB:List (Int×eA)
 ys:List cL
 np:List (Value×List Bx)
 Ms:Nat->List (Int×Int)
 es:List jU
 past:Int
 text:ByteArray
def X4(t:Tn):af:=.cells [iw t.wT,.map 1,iw t.wJ,iw t.y5,iw t.vW,iw t.xS,iw t.x8,.lit (.string t.text)] ML
theorem VL:CP [] 132 [] [] (fun v H'=>∃a,v=iw a/\H'=[.res (wY a [])]):=by
 refine ag.lower (K':=fun v H'=>v=.ptr 0 0/\∃G,H'=sS [] 0++G) ?_ ?_
 ·refine ae U rfl ?_;repeat' ((conv=>whnf);with_reducible apply aa<;>intro _)
  all_goals (try conv=>whnf)
  exact ⟨rfl,[],rfl⟩
 ·rintro _ _ ⟨rfl,G,rfl⟩;exact ⟨[],[0],0,0,sS [] 0,[],⟨rfl,rfl,tU,⟨⟨_,rfl,rfl⟩,tU⟩,bc.dx _ [none] rfl,fun _=>rfl⟩,rfl,fun a=>⟨a,rfl,rfl⟩⟩
theorem NH:CP [] 50 [.lit aO] [] (fun v H'=>∃a ys np G1 G2,v=.tuple [iw a,iA 0]/\Lf [] ys np/\H'=[G1,G2,.res (AB a ys np)]):=by
 refine ag.pre (fP.more (R:=ay []) rfl (bc.jn oh _)) ?_;refine ag.pre (fP.more (R:=aB eD 7 fN aO []) rfl (bc.jn KQ _)) ?_;refine ag.mono (SF (pl:=[]) (A:=none) (m:=0) (rs:=[]) (fun y hy=>by simp at hy) (by decide)) ?_;rintro v H' (⟨_,a,ys,np,rfl,hi,rfl⟩|⟨h,_⟩)
 ·exact ⟨a,ys,np,_,_,rfl,hi,rfl⟩
 ·simp at h
structure IM(t:Tn):Prop where
 M:t.M=[(0,⟨0,0,0,65535,0,0⟩)]
 ts:∃a,t.ts=[(0,a)]/\t.tb=[(a,[])]
 ns:t.ns=[PN.leaf ⟨0,0,0⟩]/\t.PB=[]
 cq:FD t.T/\t.CB=[]
 gr:Lf [] t.ys t.np
 tr:t.es=[]/\t.past=0
def WG(t:Tn):List af:=[.res (Bv t.wJ t.ns t.PB),.res (AB t.vW t.ys t.np),.res (sH t.wT t.M),.br (mE iK JH t.ts),.res (mU t.tb),.res (Gf t.y5 t.T t.CB),.res (wK t.xS t.Ms),.res (zq t.x8 t.es t.past),.cells [iw t.wT,.map 3,iw t.wJ,iw t.y5,iw t.vW,iw t.xS,iw t.x8,.lit (.string t.text)] ML]
theorem MM{a:Addr}{l:List dN}(w:World)(S:Nat->Prop)(h:(wY a l).at_ w S):(mU [(a,l)]).at_ w S:=⟨S,fun _=>False,h,fun _ h=>h,fun _ _ h=>h,fun b=>by simp⟩
theorem Se:CP [] 51 [] [] (fun v H'=>v=.ptr 8 0/\∃t,IM t/\H'=WG t):=by
 refine ag.post (K:=fun v H'=>v=.ptr 8 0/\∃t a,IM t/\(t.ts=[(0,a)]/\t.tb=[(a,[])])/\H'=[.res (Bv t.wJ t.ns t.PB),.res (AB t.vW t.ys t.np),.res (sH t.wT t.M),.br (mE iK JH t.ts),.res (wY a []),.res (Gf t.y5 t.T t.CB),.res (wK t.xS t.Ms),.res (zq t.x8 t.es t.past),.cells [iw t.wT,.map 3,iw t.wJ,iw t.y5,iw t.vW,iw t.xS,iw t.x8,.lit (.string t.text)] ML]) ?_ ?_
 ·refine ag.wk (K:=fun v H'=>v=.ptr 8 0/\∃t a,IM t/\(t.ts=[(0,a)]/\t.tb=[(a,[])])/\H'=[.res (Bv t.wJ t.ns t.PB),.res (AB t.vW t.ys t.np),.res (sH t.wT t.M),.map [(iA 0,iw a,0)] 1,.res (wY a []),.res (Gf t.y5 t.T t.CB),.res (wK t.xS t.Ms),.res (zq t.x8 t.es t.past),.cells [iw t.wT,.map 3,iw t.wJ,iw t.y5,iw t.vW,iw t.xS,iw t.x8,.lit (.string t.text)] ML]) ?_ ?_
  ·refine ae U rfl ?_;repeat' ((conv=>whnf);first|with_reducible apply aa<;>intro _|(refine Vv.use [] rfl rfl trivial ?_;rintro _ _ ⟨a1,rfl,rfl⟩;refine ⟨[0],?_⟩)|(refine NH.use [] rfl rfl trivial ?_;rintro _ _ ⟨a2,ys,np,G1,G2,rfl,hi,rfl⟩;refine ⟨[2],?_⟩)|(refine Vz.use [] rfl rfl trivial ?_;rintro _ _ ⟨a3,rfl,rfl⟩;refine ⟨[0],?_⟩)|(refine VL.use [] rfl rfl trivial ?_;rintro _ _ ⟨a4,rfl,rfl⟩;refine ⟨[0],?_⟩)|refine ai.OB (.inr rfl) rfl rfl rfl rfl rfl rfl rfl rfl rfl ?_|(refine TE.use [] rfl rfl trivial ?_;rintro _ _ ⟨a5,T,rfl,rfl,hT⟩;refine ⟨[0],?_⟩)|(refine Vs.use [] rfl rfl trivial ?_;rintro _ _ ⟨a6,rfl,rfl⟩;refine ⟨[0],?_⟩)|(refine V2.use [] rfl rfl trivial ?_;rintro _ _ ⟨a7,rfl,rfl⟩;refine ⟨[0],?_⟩))
   all_goals (try conv=>whnf)
   exact ⟨rfl,⟨a3,a1,a5,a2,a6,a7,[(0,⟨0,0,0,65535,0,0⟩)],[(0,a4)],[(a4,[])],[PN.leaf ⟨0,0,0⟩],[],T,[],ys,np,fun _=>[],[],0,⟨#[]⟩⟩,a4,⟨rfl,⟨a4,rfl,rfl⟩,⟨rfl,rfl⟩,⟨hT,rfl⟩,hi,⟨rfl,rfl⟩⟩,⟨rfl,rfl⟩,rfl⟩
  ·rintro _ _ ⟨rfl,t,a,h,ha,rfl⟩;refine ⟨_,.same (.same (.same (.map (fs:=mE iK JH t.ts) (by rw[ha.1];rfl) rfl (by rw[ha.1];simp[mE]) (.same (.same (.same (.same (.same .nil)))))))),rfl,t,a,h,ha,rfl⟩
 ·rintro _ _ ⟨rfl,t,a,h,ha,rfl⟩;refine ⟨WG t,fP.same rfl ?_,rfl,t,h,rfl⟩;show bc (_::_::_::_::_::_) (_::_::_::_::_::_)
  refine .cons _ (.cons _ (.cons _ (.cons _ (.imp fun w S h=>?_))));rw[ha.2];exact MM w S h
theorem J9{tb:List (Addr×List dN)}{a:Addr}{l:List dN}(w:World)(S1 S2:Nat->Prop)(h1:(mU tb).at_ w S1)(h2:(wY a l).at_ w S2)(hd:∀b,S1 b->S2 b->False):(mU (tb++[(a,l)])).at_ w (fun b=>S1 b\/S2 b):=by
 show bw ((tb++[(a,l)]).map fun t=>wY t.1 t.2) w _
 rw[List.map_append];exact dX.2 ⟨S1,S2,h1,⟨S2,fun _=>False,h2,fun _ h=>h,fun _ _ h=>h,fun b=>by simp⟩,hd,fun b=>Iff.rfl⟩
theorem Si{R:aH}{oa:Option Addr}{c:Nat}{l:List dN}{tb:List (Addr×List dN)}(hx:eG Tryz.prog R 96 10 oa ux l)(hb:∀k∈l,k.bC<18446744073709551616/\k.parent<18446744073709551616) :
  CP [] 136 [.lit (.slice oa l.length c)] [.res R,.res (mU tb)] (fun v H'=>∃e a Sd G,v=.tuple [.lit (.pointer a),iA (e:Nat)]/\(e=0↔(cg l).isSome=true)/\(e=0->∃a',a=some a'/\Sd=tb++[(a',l)])/\H'=.res R::.res (mU Sd)::G):=by
 have h1:=Sg (c:=c) hx hb;refine ag.post (K:=fun v H'=>match cg l with
   | some _=>∃a,v=.tuple [.lit (.pointer (some a)),iA 0]/\H'=[.res R,.res (mU tb),.res (wY a l)]
   | none=>v=.tuple [.lit (.pointer none),iA 1]/\∃G,H'=.res R::.res (mU tb)::G) ?_ ?_
 ·refine h1.use [0] rfl rfl ⟨ko,tU⟩ ?_;intro v H' h;cases hf:cg l with
  | none=>
    rw[hf] at h;obtain ⟨rfl,G,rfl⟩:=h;refine ⟨[],?_⟩;conv=>whnf
    exact ⟨rfl,[],rfl⟩
  | some q=>
    rw[hf] at h;obtain ⟨a,rfl,rfl⟩:=h;refine ⟨[1],?_⟩;conv=>whnf
    exact ⟨a,rfl,rfl⟩
 ·intro v H' h;cases hf:cg l with
  | none=>
    rw[hf] at h;obtain ⟨rfl,G,rfl⟩:=h;exact ⟨_,fP.same rfl (.refl _),1,none,tb,G,rfl,by simp,fun h=>by simp at h,rfl⟩
  | some q=>
    rw[hf] at h;obtain ⟨a,rfl,rfl⟩:=h;exact ⟨[.res R,.res (mU (tb++[(a,l)])),.res aA],fP.same rfl ((bc.merge (i:=1) (j:=2) rfl rfl rfl J9).trans (.of_eq rfl)),0,some a,_,_,rfl,by simp,fun _=>⟨a,rfl,rfl⟩,rfl⟩
structure iL where
 oa:Option Addr
 c:Nat
 l:List dN
def BZ(x:iL):Value:=.slice x.oa x.l.length x.c
structure bM.Tk(R:aH)(q:bM)(tk:List iL):Prop where
 nt:q.nt=tk.length
 rd:eG Tryz.prog R 52 1 q.ot BZ tk
 el:∀x∈tk,eG Tryz.prog R 96 10 x.oa ux x.l
 bd:∀x∈tk,∀k∈x.l,k.bC<18446744073709551616/\k.parent<18446744073709551616
def oY(m:Mem)(M:List (Int×Mem)):List (Int×Mem):=
 if m.user=0 then M
 else if m.k=0/\m.cf=0 then lg M { m with k:=0,cf:=0 } else (sB m.user m.k m.cf (lg M { m with k:=0,cf:=0 })).2
def Fv(ms:List Mem)(M:List (Int×Mem)):List (Int×Mem):=ms.foldl (fun M m=>oY m M) M
def KT(xs:List (Int×Addr))(ts:List (Int×Addr)):List (Int×Addr):=xs.foldl (fun ts x=>iR x.1 x.2 ts) ts
theorem JA:pj ev 123 3 (.lit (.pointer none)):=⟨_,_,_,_,rfl,rfl,rfl,rfl,rfl⟩
structure Nc(q:bM)(tk:List iL)(t:Tn)(k:Nat)(M:List (Int×Mem))(ts:List (Int×Addr))(tb:List (Addr×List dN)):Prop where
 M:M=Fv (q.ms.take k) t.M
 s:∃ad:List Addr,ad.length=k/\ts=KT (((q.ms.take k).map Mem.user).zip ad) t.ts/\tb=t.tb++ad.zip ((tk.take k).map iL.l)
structure Yz where
 k:Nat
 M:List (Int×Mem)
 ts:List (Int×Addr)
 tb:List (Addr×List dN)
theorem Nc.step{q:bM}{tk:List iL}{t:Tn}{k:Nat}{M:List (Int×Mem)}{ts:List (Int×Addr)}{tb:List (Addr×List dN)}(h:Nc q tk t k M ts tb)(h1:k<q.ms.length)(h2:k<tk.length)(a:Addr):Nc q tk t (k+1) (oY q.ms[k] M) (iR q.ms[k].user a ts) (tb++[(a,tk[k].l)]):=by
 obtain ⟨hM,ad,hl,mR,Q3⟩:=h;refine ⟨?_,ad++[a],by simp[hl],?_,?_⟩
 ·rw[hM,bf h1];unfold Fv;rw[List.foldl_append];rfl
 ·rw[bf h1,List.map_append,List.zip_append (by simp[hl];omega),mR];unfold KT;rw[List.foldl_append];rfl
 ·rw[bf h2,List.map_append,List.zip_append (by simp[hl];omega),Q3,List.append_assoc];rfl
def VK(t:Tn)(M:List (Int×Mem))(ts:List (Int×Addr))(tb:List (Addr×List dN)):List af:=[X4 t,.br (mE iK JH ts),.res (sH t.wT M),.res (mU tb)]
theorem VM{R:aH}{q:bM}{tk:List iL}{t:Tn}(h:q.Rd R)(hk:q.Tk R tk)(hn:tk.length=q.ms.length)(hl:q.ms.length<=60000) :
  CP [] 52 [.ptr 0 0,.agg q.a] (VK t t.M t.ts t.tb++[.res R]) (fun v H'=>v=bA (tk.all fun x=>(cg x.l).isSome)/\∃M ts tb G,((tk.all fun x=>(cg x.l).isSome)=true->Nc q tk t q.ms.length M ts tb)/\H'=VK t M ts tb++.res R::G):=by
 refine ae U rfl ?_;conv=>whnf
 refine aW U rfl (fun s:Yz=>[(0,.ptr 0 0),(3,.ptr 5 0),(11,.lit (.slice q.om q.ms.length q.cm)),(12,iA q.ms.length),(13,iA (s.k:Nat))]) (fun s=>VK t s.M s.ts s.tb++[.res R,.cells q.a 28])
  (fun s=>s.k<=q.ms.length/\Nc q tk t s.k s.M s.ts s.tb/\(tk.all fun x=>(cg x.l).isSome)=((tk.drop s.k).all fun x=>(cg x.l).isSome)) (fun s=>q.ms.length - s.k) ⟨0,t.M,t.ts,t.tb⟩ ⟨Nat.zero_le _,⟨rfl,[],rfl,rfl,by simp⟩,rfl⟩ [0,1,2,3,4,5] ?_ ?_
 ·exact ⟨rfl,⟨rr,rr,rr,rr,rr,tU⟩,⟨⟨_,rfl,rfl⟩,⟨_,rfl,rfl⟩,ko,ko,ko,⟨_,rfl,rfl⟩,tU⟩⟩
 ·rintro ⟨k,M,ts,tb⟩ ⟨gT,hi,hr⟩;simp only[] at gT hi hr;by_cases cB:k<q.ms.length
  ·have iq:k<tk.length:=by omega
   obtain ⟨a,ha,bq⟩:=h.ms.at cB;obtain ⟨a2,EB,dK⟩:=hk.rd.at iq;have ig:tk[k]∈tk:=List.getElem_mem iq;rw[List.drop_eq_getElem_cons iq,List.all_cons] at hr;have UO:=hk.nt;simp only[ha,EB,UO,bM.a];conv=>whnf
   refine aa (fun _=>?_) (ck cB);repeat' ((conv=>whnf);first|with_reducible apply aa<;>intro _|refine aJ.drawn U rfl rfl ?_|with_reducible refine And.intro (aG.mk ⟨_,rfl,rfl⟩) ?_|refine ai.bJ U rfl rfl rfl rfl rfl cB ?_|refine ai.bJ U rfl rfl rfl rfl rfl iq ?_|refine ai.aR (i:=4) (v:=.agg (mA q.ms[k])) rfl (fun w S hR=>bq w S hR k cB) rfl rfl ?_|refine ai.aR (i:=4) (v:=.lit (BZ tk[k])) rfl (fun w S hR=>dK w S hR k iq) rfl rfl ?_|(refine (Si (R:=R) (oa:=tk[k].oa) (c:=tk[k].c) (l:=tk[k].l) (tb:=tb) (hk.el _ ig) (hk.bd _ ig)).use [4,3] rfl rfl ⟨ko,ko,tU⟩ ?_;rintro _ _ ⟨e,a3,Sd,G,rfl,he,GJ,rfl⟩;refine ⟨[],?_⟩;rcases e with _|e;(obtain ⟨a4,rfl,rfl⟩:=GJ rfl))|refine ai.dg (key:=q.ms[k].user) (a:=a4) JA dC rfl rfl rfl rfl rfl rfl rfl rfl ?_|(refine (Pg (a:=t.wT) (M:=M) (m:={ q.ms[k] with k:=0,cf:=0 })).use [2] rfl rfl ⟨ko,tU⟩ ?_;rintro _ _ ⟨rfl,rfl⟩;refine ⟨[],?_⟩)|(refine (JT (a:=t.wT) (M:=lg M { q.ms[k] with k:=0,cf:=0 }) (u:=q.ms[k].user) (k:=q.ms[k].k) (ar:=q.ms[k].cf)).use [2] rfl rfl ⟨ko,tU⟩ ?_;rintro _ _ ⟨rfl,rfl⟩;refine ⟨[],?_⟩))
   all_goals (try conv=>whnf)
   ·rename_i hx;have kC:=hi.step cB iq a4;have e:oY q.ms[k] M=M:=by
     unfold oY;rw[if_pos (by simpa using hx)]
    rw[e] at kC;refine ⟨⟨k+1,M,iR q.ms[k].user a4 ts,tb++[(a4,tk[k].l)]⟩,[0,1,2,3,4,5],⟨⟨cB,kC,by rw[hr,he.1 rfl,Bool.true_and]⟩,by show q.ms.length - (k+1)<q.ms.length - k;omega⟩,rfl,⟨rr,rr,rr,rr,⟨rfl,aw rfl (aj (by omega) (by omega))⟩,tU⟩,⟨⟨_,rfl,rfl⟩,⟨_,rfl,rfl⟩,ko,ko,ko,⟨_,rfl,rfl⟩,tU⟩⟩
   ·rename_i hx;have kC:=hi.step cB iq a4;have e:oY q.ms[k] M=(sB q.ms[k].user q.ms[k].k q.ms[k].cf (lg M { q.ms[k] with k:=0,cf:=0 })).2:=by
     unfold oY;simp only[Bool.not_eq_true',Bool.and_eq_false_iff,Bool.and_true,beq_eq_false_iff_ne,Bool.not_eq_eq_eq_not,Bool.not_true] at *;rw[if_neg (by omega),if_neg (by omega)]
    rw[e] at kC;refine ⟨⟨k+1,(sB q.ms[k].user q.ms[k].k q.ms[k].cf (lg M { q.ms[k] with k:=0,cf:=0 })).2,iR q.ms[k].user a4 ts,tb++[(a4,tk[k].l)]⟩,[0,1,2,3,4,5],⟨⟨cB,kC,by rw[hr,he.1 rfl,Bool.true_and]⟩,by show q.ms.length - (k+1)<q.ms.length - k;omega⟩,rfl,⟨rr,rr,rr,rr,⟨rfl,aw rfl (aj (by omega) (by omega))⟩,tU⟩,⟨⟨_,rfl,rfl⟩,⟨_,rfl,rfl⟩,ko,ko,ko,⟨_,rfl,rfl⟩,tU⟩⟩
   ·rename_i hx;have kC:=hi.step cB iq a4;have e:oY q.ms[k] M=lg M { q.ms[k] with k:=0,cf:=0 }:=by
     unfold oY;simp only[Bool.not_eq_false',Bool.and_eq_true,Bool.and_true,beq_iff_eq,beq_eq_false_iff_ne,Bool.not_eq_eq_eq_not,Bool.not_false] at *;rw[if_neg (by omega),if_pos (by omega)]
    rw[e] at kC;refine ⟨⟨k+1,lg M { q.ms[k] with k:=0,cf:=0 },iR q.ms[k].user a4 ts,tb++[(a4,tk[k].l)]⟩,[0,1,2,3,4,5],⟨⟨cB,kC,by rw[hr,he.1 rfl,Bool.true_and]⟩,by show q.ms.length - (k+1)<q.ms.length - k;omega⟩,rfl,⟨rr,rr,rr,rr,⟨rfl,aw rfl (aj (by omega) (by omega))⟩,tU⟩,⟨⟨_,rfl,rfl⟩,⟨_,rfl,rfl⟩,ko,ko,ko,⟨_,rfl,rfl⟩,tU⟩⟩
   ·have hf:(cg tk[k].l).isSome=false:=by
     cases hx:(cg tk[k].l).isSome with
     | false=>rfl
     | true=>have:=he.2 hx;omega
    have jR:(tk.all fun x=>(cg x.l).isSome)=false:=by rw[hr,hf];rfl
    exact ⟨bh jR.symm,M,ts,Sd,_,(fun h=>by rw[jR] at h;cases h),rfl⟩
  ·obtain rfl:k=q.ms.length:=by omega
   rw[<-hn,List.drop_length] at hr;simp only[bM.a];conv=>whnf
   refine aa (cI cB) (fun _=>?_);repeat' ((conv=>whnf);first|with_reducible apply aa<;>intro _|refine aJ.drawn U rfl rfl ?_|with_reducible refine And.intro (aG.mk ⟨_,rfl,rfl⟩) ?_ )
   all_goals (try conv=>whnf)
   exact ⟨bh (by rw[hr];rfl),M,ts,tb,_,fun _=>hi,rfl⟩
end Go.Proofs.YtmbdghclhpboaaaGreat
