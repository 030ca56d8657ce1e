/- Part of the proof: Grt Tn. Conditions: as each states. -/
import Derived.Test.YtmbdghclhpboaaaGreatPq32
set_option linter.all false
set_option maxRecDepth 100000
namespace Go.Proofs.YtmbdghclhpboaaaGreat
open Ev
theorem Q2{pl:List (Value×List Bx)}{A:Option Addr}{l:List Bx}{m:Nat}(hh:∃w S,(aF pl).at_ w S)(iX:l≠[]->(.slice A l.length m,l)∈pl):sc (aF pl) A l where
 rd:=cU.lay aa (fun _=>rfl) LZ fun aP=>by
  obtain ⟨w0,S0,h0⟩:=hh;obtain ⟨b,off,rfl,_⟩:=xz (iX aP) aP w0 S0 h0;refine ⟨b,off,rfl,fun w S h=>?_⟩;obtain ⟨b',I6,e,hl⟩:=xz (iX aP) aP w S h;simp only[Option.some.injEq,Addr.mk.injEq] at e;obtain ⟨rfl,rfl,_⟩:=e;exact hl
 lay:=fun aP w S h=>xz (iX aP) aP w S h
def Rl.ok(x:Rl):Bool:=
 if x.kind=6 then decide (x.kJ<=255)&&(decide (x.lo=0)&&(decide (x.hi=0)&&(decide (x.labels=0)&&(decide (x.boxes.length=0)&&decide (x.bV=0)))))
 else if x.kind=4\/x.kind=5 then decide (x.kJ<=255)&&(decide (x.lo<=x.hi)&&(decide (x.hi<=7)&&(decide (x.labels<=255)&&(x.boxes.all ly&&decide (x.bV<=16)))))
 else false
def Ye(y:dc):List AV:=[iA y.x.kind,iA y.x.kJ,iA y.x.lo,iA y.x.hi,iA y.x.labels,.lit y.v,iA y.x.bV]
theorem R9{R:aC}{y:dc}(h:sc R y.A y.x.boxes)(hl:y.x.boxes.length<=1000000):CP [] 222 [.agg (Ye y)] [.res R] (fun v H'=>v=bA y.x.ok/\∃G,H'=.res R::G):=by
 refine ag aa rfl ?_;repeat' ((conv=>whnf);first|with_reducible apply af<;>intro _|(refine (Bm (m:=y.m) h.rd hl).use [0] rfl rfl ⟨ko,tU⟩ ?_;rintro _ _ ⟨rfl,G,rfl⟩;refine ⟨[],?_⟩)|refine ag aa rfl ?_)
 all_goals (try conv=>whnf)
 all_goals refine ⟨bc ?_,_,rfl⟩
 all_goals simp only[decide_eq_true_eq,decide_eq_false_iff_not,beq_iff_eq,beq_eq_false_iff_ne] at *
 all_goals unfold Rl.ok
 all_goals first
  | rw[if_pos (by omega)]
  | rw[if_neg (by omega),if_pos (by omega)]
  | rw[if_neg (by omega),if_neg (by omega)]
 all_goals simp only[Bool.and_eq_true,Bool.and_eq_false_iff,eq_comm (a:=true),eq_comm (a:=false),decide_eq_true_eq,decide_eq_false_iff_not]
 all_goals first|omega|(simp only[*,true_and,Bool.true_eq_false,Bool.false_eq_true,false_and,or_true,true_or,and_false];omega)|simp_all
theorem u7.bx{pl:List (Value×List Bx)}{y:dc}(h:u7 pl y)(hh:∃w S,(aF pl).at_ w S):sc (aF pl) y.A y.x.boxes:=Q2 (m:=y.m) hh h.2.1
theorem Vc:∃r,ev.ty gu=some r/\r.info.size=7/\bQ r.bp=true:=⟨_,rfl,rfl,rfl⟩
theorem Mv{A:Option Addr}{m:Nat}{rs:List dc}(hh:∃w S,(aA fg 7 gu (.slice A rs.length m) rs).at_ w S):cU Tryz.prog (aA fg 7 gu (.slice A rs.length m) rs) gu 7 A (fun y=>.agg (fg y).toArray) rs:=
 cU.sl aa (c:=m) (fun _=>rfl) Vc (fun w S h=>⟨_,Own.sl h.1⟩) hh
theorem zP{pl:List (Value×List Bx)}{A:Option Addr}{m:Nat}{rs:List dc}(hb:∀y∈rs,u7 pl y)(hl:rs.length<=1000):CP [] 128 [.lit (.slice A rs.length m)] [.res (aF pl),.res (aA fg 7 gu (.slice A rs.length m) rs)] (fun v H'=>v=bA (rs.all fun y=>y.x.ok)/\∃G,H'=[.res (aF pl),.res (aA fg 7 gu (.slice A rs.length m) rs)]++G):=by
 refine aj.nY 0 rfl (fun w S h=>(⟨w,S,h⟩:∃w S,(aF pl).at_ w S)) fun hp=>?_;refine aj.nY 1 rfl (fun w S h=>Mv ⟨w,S,h⟩) fun BZ=>?_;refine ag aa rfl ?_;conv=>whnf
 refine aV aa rfl (fun k:Nat=>[(5,.lit (.slice A rs.length m)),(6,iA rs.length),(7,iA (k:Nat))]) (fun _=>[.res (aF pl),.res (aA fg 7 gu (.slice A rs.length m) rs)]) (fun k=>k<=rs.length/\(rs.all fun y=>y.x.ok)=((rs.drop k).all fun y=>y.x.ok)) (fun k=>rs.length - k) 0 ⟨Nat.zero_le _,rfl⟩ [0,1] ?_ ?_
 ·exact ⟨rfl,⟨rr,rr,rr,tU⟩,⟨ko,ko,tU⟩⟩
 ·rintro k ⟨gl,hr⟩;by_cases hk:k<rs.length
  ·obtain ⟨a,rfl,bu⟩:=BZ.at hk;have hm:rs[k]∈rs:=List.getElem_mem hk;rw[List.drop_eq_getElem_cons hk,List.all_cons] at hr;conv=>whnf
   refine af (fun _=>?_) (bT hk);repeat' ((conv=>whnf);first|with_reducible apply af<;>intro _|refine al.bC aa rfl rfl rfl rfl rfl hk ?_|refine al.aR (i:=1) (v:=.agg (Ye rs[k])) rfl (fun w S hR=>bu w S hR k hk) rfl rfl ?_|(refine (R9 ((hb _ hm).bx hp) (hb _ hm).2.2).use [0] rfl rfl ⟨ko,tU⟩ ?_;rintro _ _ ⟨rfl,G,rfl⟩;refine ⟨[],?_⟩))
   all_goals (try conv=>whnf)
   all_goals
    rename_i hx
    rw[hx] at hr
   ·exact ⟨k+1,[0,1],⟨⟨hk,by rw[hr,Bool.true_and]⟩,by omega⟩,rfl,⟨rr,rr,⟨rfl,ax rfl (ak (by omega) (by omega))⟩,tU⟩,⟨ko,ko,tU⟩⟩
   ·exact ⟨bc (by rw[hr];rfl),_,rfl⟩
  ·obtain rfl:k=rs.length:=by omega
   rw[List.drop_length] at hr;conv=>whnf
   refine af (cF hk) (fun _=>?_);conv=>whnf
   exact ⟨bc (by rw[hr];rfl),_,rfl⟩
theorem Um{R:aC}{pl:List (Value×List Bx)}{A:Option Addr}{l:List Bx}{m:Nat}(h:sc R A l)(hn:l=[]->(.slice A l.length m:Value)=aD)(hl:l.length<=1000000) :
  CP [] 129 [.lit (.slice A l.length m)] [.res R,.res (aF pl)] (fun v H'=>∃A' m' eY,v=.lit (.slice A' l.length m')/\(l=[]->(.slice A' l.length m':Value)=aD)/\(∀p∈pl,p∈eY)/\(l≠[]->(.slice A' l.length m',l)∈eY)/\∃G,H'=.res R::.res (aF eY)::G):=by
 cases l with
 | nil=>
   have e:=hn rfl;rw[e];refine ag aa rfl ?_;repeat' ((conv=>whnf);with_reducible apply af<;>intro _)
   all_goals (try conv=>whnf)
   exact ⟨none,0,pl,rfl,fun _=>rfl,fun _ h=>h,fun h=>absurd rfl h,_,rfl⟩
 | cons b l=>
   obtain ⟨a0,rfl,_⟩:=h.rd.at (k:=0) (Nat.succ_pos _);refine ag aa rfl ?_;repeat' ((conv=>whnf);first|with_reducible apply af<;>intro _|(refine al.om (eH.YN aa nj qb (by decide) Fs (i:=1) (j:=0) (l:=b::l) (R':=fun v'=>aF (pl++[(v',b::l)])) rfl rfl rfl (by simp) rfl rfl (h.lay (by simp)) (fun v' w S1 S2 h1 h2 hd=>rB w S1 S2 h1 h2 hd) (by omega) ?_);intro A' m'))
   all_goals (try conv=>whnf)
   exact ⟨some A',m',_,rfl,fun h=>absurd h (by simp),fun p hp=>by simp[hp],fun _=>by simp,_,rfl⟩
abbrev Yn:TypeId:=217
def dc.zero:dc:=⟨⟨0,0,0,0,0,[],0⟩,none,0⟩
structure GnS where
 k:Nat
 ys:List dc
 np:List (Value×List Bx)
theorem Sg{α:Type}{ys:List α}{n k:Nat}{z y:α}(h:ys.length=k)(hk:k<n):(ys++List.replicate (n - k) z).set k y=ys++[y]++List.replicate (n - (k+1)) z:=by
 subst h;rw[show n - ys.length=(n - (ys.length+1))+1 by omega,List.replicate_succ];simp
def Vo(ys:List dc)(np:List (Value×List Bx)):List ai:=[.cells [.slice 1 0 ys.length (.k ys.length),.map 3] Yn,.row (ys.flatMap fg) gu,.res (aF np),.map [] 0]
def BK(a:Addr)(ys:List dc)(np:List (Value×List Bx)):aC:=AtR a 0 (Vo ys np)
structure Nd(l:List Rl)(ys:List dc)(np:List (Value×List Bx)):Prop where
 x:ys.map dc.x=l
 b:∀y∈ys,u7 np y
theorem WR{pl:List (Value×List Bx)}{A:Option Addr}{m:Nat}{rs:List dc}(hb:∀y∈rs,u7 pl y)(hl:rs.length<=32)(eR:(rs.all fun y=>y.x.ok)=true):CP [] 50 [.lit (.slice A rs.length m)] [.res (aF pl),.res (aA fg 7 gu (.slice A rs.length m) rs)] (fun v H'=>v=.tuple [.ptr 5 0,iA 0]/\∃ys np G,Nd (rs.map dc.x) ys np/\H'=[.res (aF pl),.res (aA fg 7 gu (.slice A rs.length m) rs),.row (ys.flatMap fg) gu,.res (aF np),.map [] 0,.cells [.slice 2 0 ys.length (.k ys.length),.map 4] Yn]++G):=by
 refine aj.nY 0 rfl (fun w S h=>(⟨w,S,h⟩:∃w S,(aF pl).at_ w S)) fun hp=>?_;refine aj.nY 1 rfl (fun w S h=>Mv ⟨w,S,h⟩) fun BZ=>?_;refine ag aa rfl ?_;repeat' ((conv=>whnf);first|with_reducible apply af<;>intro _|(refine (zP hb (by omega)).use [0,1] rfl rfl ⟨ko,ko,tU⟩ ?_;rintro _ _ ⟨rfl,G,rfl⟩;refine ⟨[],?_⟩;rw[eR])|refine al.make rfl rfl rfl rfl rfl rfl (by omega) rfl rfl rfl ?_)
 ·rename_i hx;exact absurd (dT1 hx) (by omega)
 ·refine aM.pre (eg.same (H2:=[.res (aF pl),.res (aA fg 7 gu (.slice A rs.length m) rs),.row ((List.replicate rs.length dc.zero).flatMap fg) gu]) (congrArg (fun l=>List.map vw [.res (aF pl),.res (aA fg 7 gu (.slice A rs.length m) rs),.cells l gu]) (EE (enc:=fg) (y:=dc.zero) (cs:=(ofValue (Value.agg #[.int .i64 0,.int .i64 0,.int .i64 0,.int .i64 0,.int .i64 0,.slice none 0 0,.int .i64 0])).cells) rfl rs.length)) (.of_eq rfl)) ?_;refine aM.pre (eg.more (R:=aF []) rfl (bj.gO o1 _)) ?_;refine aV aa rfl (fun s:GnS=>[(4,.slice 2 0 rs.length (.k rs.length)),(18,.lit (.slice A rs.length m)),(19,iA rs.length),(20,iA (s.k:Nat))]) (fun s=>[.res (aF pl),.res (aA fg 7 gu (.slice A rs.length m) rs),.row ((s.ys++List.replicate (rs.length - s.k) dc.zero).flatMap fg) gu,.res (aF s.np)])
   (fun s=>s.k<=rs.length/\s.ys.length=s.k/\s.ys.map dc.x=(rs.take s.k).map dc.x/\∀y∈s.ys,u7 s.np y) (fun s=>rs.length - s.k) ⟨0,[],[]⟩ ⟨Nat.zero_le _,rfl,rfl,fun y hy=>by simp at hy⟩ [0,1,2,3] ?_ ?_
  ·exact ⟨rfl,⟨rr,rr,rr,rr,tU⟩,⟨ko,ko,⟨_,rfl,rfl⟩,ko,tU⟩⟩
  ·rintro ⟨k,ys,np⟩ ⟨gl,Qt,XS,XR⟩;simp only[] at gl Qt XS XR;by_cases hk:k<rs.length
   ·obtain ⟨a,rfl,bu⟩:=BZ.at hk;have hm:rs[k]∈rs:=List.getElem_mem hk;have BY:=hb _ hm;have oS:(ys++List.replicate (rs.length - k) dc.zero).length=rs.length:=by rw[List.length_append,List.length_replicate];omega
    have oT:0+k * 7+7<=((ys++List.replicate (rs.length - k) dc.zero).flatMap fg).length:=by rw[eC nG,oS];omega
    have xd:∀y,setFrom ((ys++List.replicate (rs.length - k) dc.zero).flatMap fg) (0+k * 7) (fg y)=(ys++[y]++List.replicate (rs.length - (k+1)) dc.zero).flatMap fg:=fun y=>by
     rw[Nat.zero_add,CR nG _ _ _ (by omega),Sg Qt hk]
    conv=>whnf
    refine af (fun _=>?_) (bT hk);repeat' ((conv=>whnf);first|with_reducible apply af<;>intro _|refine al.bC aa rfl rfl rfl rfl rfl hk ?_|refine al.aR (i:=1) (v:=.agg (Ye rs[k])) rfl (fun w S hR=>bu w S hR k hk) rfl rfl ?_|(refine (Um (pl:=np) (m:=rs[k].m) (BY.bx hp) BY.1 BY.2.2).use [0,3] rfl rfl ⟨ko,ko,tU⟩ ?_;rintro _ _ ⟨A',m',np',rfl,FW,gp,ZI,G',rfl⟩;refine ⟨[],?_⟩)|refine aO.of (k:=k) rfl hk ?_|refine al.MJ (off:=0+k * 7) (vs:=fg ⟨rs[k].x,A',m'⟩) rfl rfl rfl rfl rfl rfl rfl rfl oT rfl ?_)
    all_goals (try conv=>whnf)
    refine ⟨⟨k+1,ys++[⟨rs[k].x,A',m'⟩],np'⟩,[0,1,2,3],⟨⟨hk,by simp[Qt],by show _=(rs.take (k+1)).map dc.x;rw[List.map_append,XS,bq hk,List.map_append];rfl,fun y hy=>?_⟩,by show rs.length - (k+1)<rs.length - k;omega⟩,rfl,⟨rr,rr,rr,⟨rfl,ax rfl (ak (by dsimp only;omega) (by dsimp only;omega))⟩,tU⟩,⟨ko,ko,⟨_,rfl,?_⟩,ko,tU⟩⟩
    ·rcases List.mem_append.1 hy with h|h
     ·exact (XR y h).more gp
     ·rw[List.mem_singleton.1 h];exact ⟨FW,ZI,BY.2.2⟩
    ·show pL (ai.row (setFrom ((ys++List.replicate (rs.length - k) dc.zero).flatMap fg) (0+k * 7) (fg ⟨rs[k].x,A',m'⟩)) gu) (ai.row ((ys++[(⟨rs[k].x,A',m'⟩:dc)]++List.replicate (rs.length - (k+1)) dc.zero).flatMap fg) gu)
     rw[xd];exact rfl
   ·obtain rfl:k=rs.length:=by omega
    conv=>whnf
    refine af (cF hk) (fun _=>?_);repeat' ((conv=>whnf);with_reducible apply af<;>intro _)
    all_goals (try conv=>whnf)
    have e:ys++List.replicate (rs.length - rs.length) dc.zero=ys:=by simp
    refine ⟨rfl,ys,np,[],⟨by rw[XS,List.take_length],XR⟩,?_⟩;show [ai.res (aF pl),ai.res (aA fg 7 gu (Value.slice A rs.length m) rs),ai.row ((ys++List.replicate (rs.length - rs.length) dc.zero).flatMap fg) gu,ai.res (aF np),ai.map [] 0,ai.cells [AV.slice 2 0 rs.length (pe.k rs.length),AV.map 4] Yn]=_
    rw[e,Qt];rfl
theorem Vn{pl:List (Value×List Bx)}{A:Option Addr}{m:Nat}{rs:List dc}(hb:∀y∈rs,u7 pl y)(hl:rs.length<=32):CP [] 50 [.lit (.slice A rs.length m)] [.res (aF pl),.res (aA fg 7 gu (.slice A rs.length m) rs)] (fun v H'=>((rs.all fun y=>y.x.ok)=true/\∃a ys np,v=.tuple [.lit (.pointer (some a)),iA 0]/\Nd (rs.map dc.x) ys np/\H'=[.res (aF pl),.res (aA fg 7 gu (.slice A rs.length m) rs),.res (BK a ys np)])\/((rs.all fun y=>y.x.ok)=false/\v=.tuple [.lit (.pointer none),iA 1]/\∃G,H'=[.res (aF pl),.res (aA fg 7 gu (.slice A rs.length m) rs)]++G)):=by
 cases eR:rs.all fun y=>y.x.ok with
 | false=>
   refine ag aa rfl ?_;repeat' ((conv=>whnf);first|with_reducible apply af<;>intro _|(refine (zP hb (by omega)).use [0,1] rfl rfl ⟨ko,ko,tU⟩ ?_;rintro _ _ ⟨rfl,G,rfl⟩;refine ⟨[],?_⟩;rw[eR]))
   all_goals (try conv=>whnf)
   ·rename_i hx;exact absurd (dT1 hx) (by omega)
   ·exact .inr ⟨rfl,rfl,_,rfl⟩
 | true=>
   refine aj.lower (WR hb hl eR) ?_;rintro _ _ ⟨rfl,ys,np,G,hi,rfl⟩;exact ⟨[0,1],[5,2,3,4],5,0,Vo ys np,[iA 0],⟨rfl,rfl,⟨⟨_,rfl,rfl⟩,⟨_,rfl,rfl⟩,tU⟩,⟨⟨_,rfl,rfl⟩,⟨_,rfl,rfl⟩,⟨_,rfl,rfl⟩,⟨_,rfl,rfl⟩,tU⟩,bj.cons _ (bj.cons _ (bj.dT _ [none,none,some 1,none] rfl)),fun _=>rfl⟩,rfl,fun a=>.inl ⟨rfl,a,ys,np,rfl,hi,rfl⟩⟩
abbrev OE:TypeId:=127
abbrev jb(a:Addr):AV:=.lit (.pointer (some a))
abbrev La(x:Addr):Value:=.pointer (some x)
def nS(tb:List (Addr×List cy)):aC:=aC.star (tb.map fun t=>xV t.1 t.2)
structure Tn where
 xJ:Addr
 xA:Addr
 zZ:Addr
 wX:Addr
 yR:Addr
 y7:Addr
 M:List (Int×Mem)
 ts:List (Int×Addr)
 tb:List (Addr×List cy)
 ns:List PN
 PB:List (Int×bW)
 T:QT
 CB:List (Int×df)
 ys:List dc
 np:List (Value×List Bx)
 Ms:Nat->List (Int×Int)
 es:List fS
 past:Int
 text:ByteArray
def tnC(t:Tn):ai:=.cells [jb t.xJ,.map 1,jb t.xA,jb t.zZ,jb t.wX,jb t.yR,jb t.y7,.lit (.string t.text)] OE
theorem Yr:CP [] 132 [] [] (fun v H'=>∃a,v=jb a/\H'=[.res (xV a [])]):=by
 refine aj.lower (K':=fun v H'=>v=.ptr 0 0/\∃G,H'=ub [] 0++G) ?_ ?_
 ·refine ag aa rfl ?_;repeat' ((conv=>whnf);with_reducible apply af<;>intro _)
  all_goals (try conv=>whnf)
  exact ⟨rfl,[],rfl⟩
 ·rintro _ _ ⟨rfl,G,rfl⟩;exact ⟨[],[0],0,0,ub [] 0,[],⟨rfl,rfl,tU,⟨⟨_,rfl,rfl⟩,tU⟩,bj.dT _ [none] rfl,fun _=>rfl⟩,rfl,fun a=>⟨a,rfl,rfl⟩⟩
theorem PI:CP [] 50 [.lit aD] [] (fun v H'=>∃a ys np G1 G2,v=.tuple [jb a,iA 0]/\Nd [] ys np/\H'=[G1,G2,.res (BK a ys np)]):=by
 refine aj.pre (eg.more (R:=aF []) rfl (bj.gO o1 _)) ?_;refine aj.pre (eg.more (R:=aA fg 7 gu aD []) rfl (bj.gO Mw _)) ?_;refine aj.mono (Vn (pl:=[]) (A:=none) (m:=0) (rs:=[]) (fun y hy=>by simp at hy) (by decide)) ?_;rintro v H' (⟨_,a,ys,np,rfl,hi,rfl⟩|⟨h,_⟩)
 ·exact ⟨a,ys,np,_,_,rfl,hi,rfl⟩
 ·simp at h
structure J9(t:Tn):Prop where
 M:t.M=[(0,⟨0,0,0,65535,0,0⟩)]
 ts:∃a,t.ts=[(0,a)]/\t.tb=[(a,[])]
 ns:t.ns=[PN.leaf ⟨0,0,0⟩]/\t.PB=[]
 cq:GZ t.T/\t.CB=[]
 gr:Nd [] t.ys t.np
 tr:t.es=[]/\t.past=0
def Zp(t:Tn):List ai:=[.res (Cx t.xA t.ns t.PB),.res (BK t.wX t.ys t.np),.res (tP t.xJ t.M),.bE (mE iK La t.ts),.res (nS t.tb),.res (HR t.zZ t.T t.CB),.res (xB t.yR t.Ms),.res (Ao t.y7 t.es t.past),.cells [jb t.xJ,.map 3,jb t.xA,jb t.zZ,jb t.wX,jb t.yR,jb t.y7,.lit (.string t.text)] OE]
theorem OF{a:Addr}{l:List cy}(w:World)(S:Nat->Prop)(h:(xV a l).at_ w S):(nS [(a,l)]).at_ w S:=⟨S,fun _=>False,h,fun _ h=>h,fun _ _ h=>h,fun b=>by simp⟩
theorem U4:CP [] 51 [] [] (fun v H'=>v=.ptr 8 0/\∃t,J9 t/\H'=Zp t):=by
 refine aj.post (K:=fun v H'=>v=.ptr 8 0/\∃t a,J9 t/\(t.ts=[(0,a)]/\t.tb=[(a,[])])/\H'=[.res (Cx t.xA t.ns t.PB),.res (BK t.wX t.ys t.np),.res (tP t.xJ t.M),.bE (mE iK La t.ts),.res (xV a []),.res (HR t.zZ t.T t.CB),.res (xB t.yR t.Ms),.res (Ao t.y7 t.es t.past),.cells [jb t.xJ,.map 3,jb t.xA,jb t.zZ,jb t.wX,jb t.yR,jb t.y7,.lit (.string t.text)] OE]) ?_ ?_
 ·refine aj.wk (K:=fun v H'=>v=.ptr 8 0/\∃t a,J9 t/\(t.ts=[(0,a)]/\t.tb=[(a,[])])/\H'=[.res (Cx t.xA t.ns t.PB),.res (BK t.wX t.ys t.np),.res (tP t.xJ t.M),.map [(iA 0,jb a,0)] 1,.res (xV a []),.res (HR t.zZ t.T t.CB),.res (xB t.yR t.Ms),.res (Ao t.y7 t.es t.past),.cells [jb t.xJ,.map 3,jb t.xA,jb t.zZ,jb t.wX,jb t.yR,jb t.y7,.lit (.string t.text)] OE]) ?_ ?_
  ·refine ag aa rfl ?_;repeat' ((conv=>whnf);first|with_reducible apply af<;>intro _|(refine X8.use [] rfl rfl trivial ?_;rintro _ _ ⟨a1,rfl,rfl⟩;refine ⟨[0],?_⟩)|(refine PI.use [] rfl rfl trivial ?_;rintro _ _ ⟨a2,ys,np,G1,G2,rfl,hi,rfl⟩;refine ⟨[2],?_⟩)|(refine Yc.use [] rfl rfl trivial ?_;rintro _ _ ⟨a3,rfl,rfl⟩;refine ⟨[0],?_⟩)|(refine Yr.use [] rfl rfl trivial ?_;rintro _ _ ⟨a4,rfl,rfl⟩;refine ⟨[0],?_⟩)|refine al.QI (.inr rfl) rfl rfl rfl rfl rfl rfl rfl rfl rfl ?_|(refine Wn.use [] rfl rfl trivial ?_;rintro _ _ ⟨a5,T,rfl,rfl,hT⟩;refine ⟨[0],?_⟩)|(refine X5.use [] rfl rfl trivial ?_;rintro _ _ ⟨a6,rfl,rfl⟩;refine ⟨[0],?_⟩)|(refine YM.use [] rfl rfl trivial ?_;rintro _ _ ⟨a7,rfl,rfl⟩;refine ⟨[0],?_⟩))
   all_goals (try conv=>whnf)
   exact ⟨rfl,⟨a3,a1,a5,a2,a6,a7,[(0,⟨0,0,0,65535,0,0⟩)],[(0,a4)],[(a4,[])],[PN.leaf ⟨0,0,0⟩],[],T,[],ys,np,fun _=>[],[],0,⟨#[]⟩⟩,a4,⟨rfl,⟨a4,rfl,rfl⟩,⟨rfl,rfl⟩,⟨hT,rfl⟩,hi,⟨rfl,rfl⟩⟩,⟨rfl,rfl⟩,rfl⟩
  ·rintro _ _ ⟨rfl,t,a,h,ha,rfl⟩;refine ⟨_,.same (.same (.same (.map (fs:=mE iK La t.ts) (by rw[ha.1];rfl) rfl (by rw[ha.1];simp[mE]) (.same (.same (.same (.same (.same .nil)))))))),rfl,t,a,h,ha,rfl⟩
 ·rintro _ _ ⟨rfl,t,a,h,ha,rfl⟩;refine ⟨Zp t,eg.same rfl ?_,rfl,t,h,rfl⟩;show bj (_::_::_::_::_::_) (_::_::_::_::_::_)
  refine .cons _ (.cons _ (.cons _ (.cons _ (.imp fun w S h=>?_))));rw[ha.2];exact OF w S h
theorem LG{tb:List (Addr×List cy)}{a:Addr}{l:List cy}(w:World)(S1 S2:Nat->Prop)(h1:(nS tb).at_ w S1)(h2:(xV a l).at_ w S2)(hd:∀b,S1 b->S2 b->False):(nS (tb++[(a,l)])).at_ w (fun b=>S1 b\/S2 b):=by
 show bD ((tb++[(a,l)]).map fun t=>xV t.1 t.2) w _
 rw[List.map_append];exact dK.2 ⟨S1,S2,h1,⟨S2,fun _=>False,h2,fun _ h=>h,fun _ _ h=>h,fun b=>by simp⟩,hd,fun b=>Iff.rfl⟩
theorem U7{R:aC}{oa:Option Addr}{c:Nat}{l:List cy}{tb:List (Addr×List cy)}(hx:cU Tryz.prog R 96 10 oa sa l)(hb:∀k∈l,k.bH<18446744073709551616/\k.parent<18446744073709551616) :
  CP [] 136 [.lit (.slice oa l.length c)] [.res R,.res (nS tb)] (fun v H'=>∃e a U0 G,v=.tuple [.lit (.pointer a),iA (e:Nat)]/\(e=0↔(cw l).isSome=true)/\(e=0->∃a',a=some a'/\U0=tb++[(a',l)])/\H'=.res R::.res (nS U0)::G):=by
 have h1:=U5 (c:=c) hx hb;refine aj.post (K:=fun v H'=>match cw l with
   | some _=>∃a,v=.tuple [.lit (.pointer (some a)),iA 0]/\H'=[.res R,.res (nS tb),.res (xV a l)]
   | none=>v=.tuple [.lit (.pointer none),iA 1]/\∃G,H'=.res R::.res (nS tb)::G) ?_ ?_
 ·refine h1.use [0] rfl rfl ⟨ko,tU⟩ ?_;intro v H' h;cases hf:cw l with
  | none=>
    rw[hf] at h;obtain ⟨rfl,G,rfl⟩:=h;refine ⟨[],?_⟩;conv=>whnf
    exact ⟨rfl,[],rfl⟩
  | some q=>
    rw[hf] at h;obtain ⟨a,rfl,rfl⟩:=h;refine ⟨[1],?_⟩;conv=>whnf
    exact ⟨a,rfl,rfl⟩
 ·intro v H' h;cases hf:cw l with
  | none=>
    rw[hf] at h;obtain ⟨rfl,G,rfl⟩:=h;exact ⟨_,eg.same rfl (.refl _),1,none,tb,G,rfl,by simp,fun h=>by simp at h,rfl⟩
  | some q=>
    rw[hf] at h;obtain ⟨a,rfl,rfl⟩:=h;exact ⟨[.res R,.res (nS (tb++[(a,l)])),.res aB],eg.same rfl ((bj.merge (i:=1) (j:=2) rfl rfl rfl LG).trans (.of_eq rfl)),0,some a,_,_,rfl,by simp,fun _=>⟨a,rfl,rfl⟩,rfl⟩
structure dW where
 oa:Option Addr
 c:Nat
 l:List cy
def lN(x:dW):Value:=.slice x.oa x.l.length x.c
structure bG.Tk(R:aC)(q:bG)(tk:List dW):Prop where
 nt:q.nt=tk.length
 rd:cU Tryz.prog R 52 1 q.ot lN tk
 el:∀x∈tk,cU Tryz.prog R 96 10 x.oa sa x.l
 bd:∀x∈tk,∀k∈x.l,k.bH<18446744073709551616/\k.parent<18446744073709551616
def pI(m:Mem)(M:List (Int×Mem)):List (Int×Mem):=
 if m.user=0 then M
 else if m.k=0/\m.cu=0 then lR M { m with k:=0,cu:=0 } else (tJ m.user m.k m.cu (lR M { m with k:=0,cu:=0 })).2
def GM(ms:List Mem)(M:List (Int×Mem)):List (Int×Mem):=ms.foldl (fun M m=>pI m M) M
def Mz(xs:List (Int×Addr))(ts:List (Int×Addr)):List (Int×Addr):=xs.foldl (fun ts x=>jx x.1 x.2 ts) ts
theorem K2:p8 ev 123 3 (.lit (.pointer none)):=⟨_,_,_,_,rfl,rfl,rfl,rfl,rfl⟩
structure O4(q:bG)(tk:List dW)(t:Tn)(k:Nat)(M:List (Int×Mem))(ts:List (Int×Addr))(tb:List (Addr×List cy)):Prop where
 M:M=GM (q.ms.take k) t.M
 s:∃ad:List Addr,ad.length=k/\ts=Mz (((q.ms.take k).map Mem.user).zip ad) t.ts/\tb=t.tb++ad.zip ((tk.take k).map dW.l)
structure TkL where
 k:Nat
 M:List (Int×Mem)
 ts:List (Int×Addr)
 tb:List (Addr×List cy)
theorem O4.step{q:bG}{tk:List dW}{t:Tn}{k:Nat}{M:List (Int×Mem)}{ts:List (Int×Addr)}{tb:List (Addr×List cy)}(h:O4 q tk t k M ts tb)(h1:k<q.ms.length)(h2:k<tk.length)(a:Addr):O4 q tk t (k+1) (pI q.ms[k] M) (jx q.ms[k].user a ts) (tb++[(a,tk[k].l)]):=by
 obtain ⟨hM,ad,hl,nP,TA⟩:=h;refine ⟨?_,ad++[a],by simp[hl],?_,?_⟩
 ·rw[hM,bq h1];unfold GM;rw[List.foldl_append];rfl
 ·rw[bq h1,List.map_append,List.zip_append (by simp[hl];omega),nP];unfold Mz;rw[List.foldl_append];rfl
 ·rw[bq h2,List.map_append,List.zip_append (by simp[hl];omega),TA,List.append_assoc];rfl
def Yq(t:Tn)(M:List (Int×Mem))(ts:List (Int×Addr))(tb:List (Addr×List cy)):List ai:=[tnC t,.bE (mE iK La ts),.res (tP t.xJ M),.res (nS tb)]
theorem Ys{R:aC}{q:bG}{tk:List dW}{t:Tn}(h:q.Rd R)(hk:q.Tk R tk)(hn:tk.length=q.ms.length)(hl:q.ms.length<=60000) :
  CP [] 52 [.ptr 0 0,.agg q.a] (Yq t t.M t.ts t.tb++[.res R]) (fun v H'=>v=bA (tk.all fun x=>(cw x.l).isSome)/\∃M ts tb G,((tk.all fun x=>(cw x.l).isSome)=true->O4 q tk t q.ms.length M ts tb)/\H'=Yq t M ts tb++.res R::G):=by
 refine ag aa rfl ?_;conv=>whnf
 refine aV aa rfl (fun s:TkL=>[(0,.ptr 0 0),(3,.ptr 5 0),(11,.lit (.slice q.om q.ms.length q.cm)),(12,iA q.ms.length),(13,iA (s.k:Nat))]) (fun s=>Yq t s.M s.ts s.tb++[.res R,.cells q.a 28])
  (fun s=>s.k<=q.ms.length/\O4 q tk t s.k s.M s.ts s.tb/\(tk.all fun x=>(cw x.l).isSome)=((tk.drop s.k).all fun x=>(cw x.l).isSome)) (fun s=>q.ms.length - s.k) ⟨0,t.M,t.ts,t.tb⟩ ⟨Nat.zero_le _,⟨rfl,[],rfl,rfl,by simp⟩,rfl⟩ [0,1,2,3,4,5] ?_ ?_
 ·exact ⟨rfl,⟨rr,rr,rr,rr,rr,tU⟩,⟨⟨_,rfl,rfl⟩,⟨_,rfl,rfl⟩,ko,ko,ko,⟨_,rfl,rfl⟩,tU⟩⟩
 ·rintro ⟨k,M,ts,tb⟩ ⟨gl,hi,hr⟩;simp only[] at gl hi hr;by_cases cT:k<q.ms.length
  ·have iY:k<tk.length:=by omega
   obtain ⟨a,ha,bu⟩:=h.ms.at cT;obtain ⟨a2,FJ,cQ⟩:=hk.rd.at iY;have iS:tk[k]∈tk:=List.getElem_mem iY;rw[List.drop_eq_getElem_cons iY,List.all_cons] at hr;have Qd:=hk.nt;simp only[ha,FJ,Qd,bG.a];conv=>whnf
   refine af (fun _=>?_) (bT cT);repeat' ((conv=>whnf);first|with_reducible apply af<;>intro _|refine aM.drawn aa rfl rfl ?_|with_reducible refine And.intro (aN.mk ⟨_,rfl,rfl⟩) ?_|refine al.bC aa rfl rfl rfl rfl rfl cT ?_|refine al.bC aa rfl rfl rfl rfl rfl iY ?_|refine al.aR (i:=4) (v:=.agg (mA q.ms[k])) rfl (fun w S hR=>bu w S hR k cT) rfl rfl ?_|refine al.aR (i:=4) (v:=.lit (lN tk[k])) rfl (fun w S hR=>cQ w S hR k iY) rfl rfl ?_|(refine (U7 (R:=R) (oa:=tk[k].oa) (c:=tk[k].c) (l:=tk[k].l) (tb:=tb) (hk.el _ iS) (hk.bd _ iS)).use [4,3] rfl rfl ⟨ko,ko,tU⟩ ?_;rintro _ _ ⟨e,a3,U0,G,rfl,he,Iv,rfl⟩;refine ⟨[],?_⟩;rcases e with _|e;(obtain ⟨a4,rfl,rfl⟩:=Iv rfl))|refine al.dM (key:=q.ms[k].user) (a:=a4) K2 dY rfl rfl rfl rfl rfl rfl rfl rfl ?_|(refine (Ry (a:=t.xJ) (M:=M) (m:={ q.ms[k] with k:=0,cu:=0 })).use [2] rfl rfl ⟨ko,tU⟩ ?_;rintro _ _ ⟨rfl,rfl⟩;refine ⟨[],?_⟩)|(refine (Lo (a:=t.xJ) (M:=lR M { q.ms[k] with k:=0,cu:=0 }) (u:=q.ms[k].user) (k:=q.ms[k].k) (ar:=q.ms[k].cu)).use [2] rfl rfl ⟨ko,tU⟩ ?_;rintro _ _ ⟨rfl,rfl⟩;refine ⟨[],?_⟩))
   all_goals (try conv=>whnf)
   ·rename_i hx;have lp:=hi.step cT iY a4;have e:pI q.ms[k] M=M:=by
     unfold pI;rw[if_pos (by simpa using hx)]
    rw[e] at lp;refine ⟨⟨k+1,M,jx q.ms[k].user a4 ts,tb++[(a4,tk[k].l)]⟩,[0,1,2,3,4,5],⟨⟨cT,lp,by rw[hr,he.1 rfl,Bool.true_and]⟩,by show q.ms.length - (k+1)<q.ms.length - k;omega⟩,rfl,⟨rr,rr,rr,rr,⟨rfl,ax rfl (ak (by omega) (by omega))⟩,tU⟩,⟨⟨_,rfl,rfl⟩,⟨_,rfl,rfl⟩,ko,ko,ko,⟨_,rfl,rfl⟩,tU⟩⟩
   ·rename_i hx;have lp:=hi.step cT iY a4;have e:pI q.ms[k] M=(tJ q.ms[k].user q.ms[k].k q.ms[k].cu (lR M { q.ms[k] with k:=0,cu:=0 })).2:=by
     unfold pI;simp only[Bool.not_eq_true',Bool.and_eq_false_iff,Bool.and_true,beq_eq_false_iff_ne,Bool.not_eq_eq_eq_not,Bool.not_true] at *;rw[if_neg (by omega),if_neg (by omega)]
    rw[e] at lp;refine ⟨⟨k+1,(tJ q.ms[k].user q.ms[k].k q.ms[k].cu (lR M { q.ms[k] with k:=0,cu:=0 })).2,jx q.ms[k].user a4 ts,tb++[(a4,tk[k].l)]⟩,[0,1,2,3,4,5],⟨⟨cT,lp,by rw[hr,he.1 rfl,Bool.true_and]⟩,by show q.ms.length - (k+1)<q.ms.length - k;omega⟩,rfl,⟨rr,rr,rr,rr,⟨rfl,ax rfl (ak (by omega) (by omega))⟩,tU⟩,⟨⟨_,rfl,rfl⟩,⟨_,rfl,rfl⟩,ko,ko,ko,⟨_,rfl,rfl⟩,tU⟩⟩
   ·rename_i hx;have lp:=hi.step cT iY a4;have e:pI q.ms[k] M=lR M { q.ms[k] with k:=0,cu:=0 }:=by
     unfold pI;simp only[Bool.not_eq_false',Bool.and_eq_true,Bool.and_true,beq_iff_eq,beq_eq_false_iff_ne,Bool.not_eq_eq_eq_not,Bool.not_false] at *;rw[if_neg (by omega),if_pos (by omega)]
    rw[e] at lp;refine ⟨⟨k+1,lR M { q.ms[k] with k:=0,cu:=0 },jx q.ms[k].user a4 ts,tb++[(a4,tk[k].l)]⟩,[0,1,2,3,4,5],⟨⟨cT,lp,by rw[hr,he.1 rfl,Bool.true_and]⟩,by show q.ms.length - (k+1)<q.ms.length - k;omega⟩,rfl,⟨rr,rr,rr,rr,⟨rfl,ax rfl (ak (by omega) (by omega))⟩,tU⟩,⟨⟨_,rfl,rfl⟩,⟨_,rfl,rfl⟩,ko,ko,ko,⟨_,rfl,rfl⟩,tU⟩⟩
   ·have hf:(cw tk[k].l).isSome=false:=by
     cases hx:(cw tk[k].l).isSome with
     | false=>rfl
     | true=>have:=he.2 hx;omega
    have kH:(tk.all fun x=>(cw x.l).isSome)=false:=by rw[hr,hf];rfl
    exact ⟨bc kH.symm,M,ts,U0,_,(fun h=>by rw[kH] at h;cases h),rfl⟩
  ·obtain rfl:k=q.ms.length:=by omega
   rw[<-hn,List.drop_length] at hr;simp only[bG.a];conv=>whnf
   refine af (cF cT) (fun _=>?_);repeat' ((conv=>whnf);first|with_reducible apply af<;>intro _|refine aM.drawn aa rfl rfl ?_|with_reducible refine And.intro (aN.mk ⟨_,rfl,rfl⟩) ?_ )
   all_goals (try conv=>whnf)
   exact ⟨bc (by rw[hr];rfl),M,ts,tb,_,fun _=>hi,rfl⟩
