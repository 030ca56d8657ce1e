/- Part of the proof: Pt2 Cif2 LexP PolP RulP SyN SyO SyP. Conditions: as each states. -/
import Derived.Test.YtmbdghclhpboaaaGreatPw25
set_option linter.all false
set_option maxRecDepth 100000
namespace Go.Proofs.YtmbdghclhpboaaaGreat
open Ev
theorem Uf{S:List Nat}{H:List af}{K:AV->List af->Prop}{x y:Int}(k:K (bA (fits x y)) H):CP S 213 [.agg [iA x,iA y]] H K:=by
 refine ag.pure ?_ (fun _=>rfl) (fun _=>rfl) k;refine ae U rfl ?_;repeat' ((conv=>whnf);first|with_reducible apply aa<;>intro _|refine ae U rfl ?_)
 all_goals
  refine bh ?_
  unfold fits
  simp_all
 all_goals omega
def Bv(a:Addr)(ns:List PN)(B:List (Int×cw)):aH:=AtR a 0 (qC 4 ns ns.length B .nil)
structure Ea(ns:List PN)(B:List (Int×cw)):Prop where
 wf:nK 4 OH ⟨En ns,[]⟩
 root:∃nd,ns[0]?=some nd
 len:ns.length<=1+64 * B.length
 hU:hU (En ns)<=B.length
theorem Rt{ns:List PN}{B:List (Int×cw)}{G:List af}{v:AV}(hv:∀g,v.cG g=v):CJ [0,1,2,3,4] 0 (qC 4 ns ns.length B .nil++G) (qC 4 ns ns.length B .nil) v:=
 ⟨rfl,rfl,⟨⟨_,rfl,rfl⟩,⟨_,rfl,rfl⟩,⟨_,rfl,rfl⟩,⟨_,rfl,rfl⟩,⟨_,rfl,rfl⟩,tU⟩,bc.cons _ (bc.cons _ (bc.cons _ (bc.cons _ (bc.cons _ (bc.all _))))),hv⟩
theorem OR{ns:List PN}{B:List (Int×cw)}{id:Int}(hn:0<ns.length):CP [] 229 [.ptr 0 0,iA id] (qC 4 ns ns.length B .nil) (fun v H'=>v=.tuple [.agg (mF ((cV id B).getD ⟨0,0,0,0⟩)),bA (cV id B).isSome]/\∃G,H'=qC 4 ns ns.length B .nil++G):=by
 refine ae U rfl ?_;repeat' ((conv=>whnf);first|with_reducible apply aa<;>intro _|refine ai.lx _ sw dC rfl rfl rfl rfl (fun a ha=>?_) (fun ha=>?_)|refine And.intro (aG.look _ sw dC rfl rfl rfl rfl rfl (by assumption) rfl rfl) ?_|refine ae U rfl ?_)
 all_goals (try conv=>whnf)
 ·rw[ha];exact ⟨rfl,_,rfl⟩
 ·rw[ha];exact ⟨rfl,_,rfl⟩
 ·rename_i h;have:=of_decide_eq_false h;omega
theorem OS{a:Addr}{ns:List PN}{B:List (Int×cw)}{id:Int}(hn:0<ns.length):CP [] 229 [.lit (.pointer (some a)),iA id] [.res (Bv a ns B)] (fun v H'=>v=.tuple [.agg (mF ((cV id B).getD ⟨0,0,0,0⟩)),bA (cV id B).isSome]/\H'=[.res (Bv a ns B)]):=
 ag.Cy (OR hn) (fun _=>rfl) fun v H' h=>by
  obtain ⟨rfl,G,rfl⟩:=h;exact ⟨[0,1,2,3,4],qC 4 ns ns.length B .nil,Rt fun _=>rfl,rfl,rfl⟩
theorem zU{id:Int}{r:cw}{B:List (Int×cw)}(h:cV id B=none):iR id r B=B++[(id,r)]:=by
 unfold iR;unfold cV at h;cases hf:iM id B 0 with
 | none=>rfl
 | some p=>rw[hf] at h;cases h
def M4(ns:List PN)(B:List (Int×cw))(r:cw)(K:AV->List PN->List (Int×cw)->Prop):Prop:=
 (fits r.x r.y=false/\K (iA 1) ns B)\/(fits r.x r.y=true/\(cV r.id B).isSome=true/\K (iA 20) ns B) \/
 (fits r.x r.y=true/\cV r.id B=none/\∃kZ,En kZ=(gH 4 17 ⟨En ns,[]⟩ 0 r).ns/\Ea kZ (B++[(r.id,r)])/\K (iA 0) kZ (B++[(r.id,r)]))
theorem Vt{a:Addr}{ns:List PN}{B:List (Int×cw)}{r:cw}(h:Ea ns B)(hB:B.length<=10000000):CP [] 140 [.lit (.pointer (some a)),.agg (mF r)] [.res (Bv a ns B)] (fun v H'=>M4 ns B r fun u kZ B'=>v=u/\H'=[.res (Bv a kZ B')]):=by
 obtain ⟨nd,mP⟩:=h.root;have Xh:0<ns.length:=cM mP;have mz:=bY.bd (h.wf.cell 0 _ (eE mP));have jd:gX nd<=16:=by
  have:nd.er.c=nd.c:=rfl;rw[this] at mz;unfold gX;split<;>omega
 have hlen:=h.len;have SV:=h.hU;have fw:=Bu 17 ⟨En ns,[]⟩ 0 nd.er r h.wf (eE mP) (by simp) (by show 1+gX nd<=17;omega) (by omega);have Z9:gX nd.er=gX nd:=rfl;have hI:∀pc,En pc=(gH 4 17 ⟨En ns,[]⟩ 0 r).ns->(gH 4 17 ⟨En ns,[]⟩ 0 r).fr=[]->Ea pc (B++[(r.id,r)]):=fun pc e1 e2=>by
  have heq:(⟨En pc,[]⟩:PS)=gH 4 17 ⟨En ns,[]⟩ 0 r:=by
   cases hp:gH 4 17 ⟨En ns,[]⟩ 0 r
   rw[hp] at e1 e2;simp only[] at e1 e2;rw[e1,e2]
  rw[<-heq] at fw;obtain ⟨_,m2,k1,_⟩:=fw.keeps 0 nd.er (eE mP) (by simp);obtain ⟨m3,k4,rfl⟩:=zM k1;have k5:=fw.hU;have k6:=fw.len;simp only[Kk,List.length_append,List.length_cons,List.length_nil] at k5 k6 ⊢;exact ⟨fw.wf,⟨m3,k4⟩,by simp only[List.length_append,List.length_cons,List.length_nil];omega,by simp only[List.length_append,List.length_cons,List.length_nil];omega⟩
 refine ag.Cy (K':=fun v H'=>∃ρ kZ B',CJ ρ 0 H' (qC 4 kZ kZ.length B' .nil) v/\M4 ns B r fun u SZ Ya=>v=u/\SZ=kZ/\Ya=B') ?_ (fun _=>rfl) ?_
 ·refine ae U rfl ?_;repeat' ((conv=>whnf);first|with_reducible apply aa<;>intro _|refine aJ.drawn U rfl rfl ?_|with_reducible refine And.intro (aG.mk ⟨_,rfl,rfl⟩) ?_|refine Uf ?_|refine ai.lx _ sw dC rfl rfl rfl rfl (fun a ha=>?_) (fun ha=>?_)|refine And.intro (aG.look _ sw dC rfl rfl rfl rfl rfl (by assumption) rfl rfl) ?_|refine ai.dg (key:=r.id) (a:=r) sw dC rfl rfl rfl rfl rfl rfl rfl rfl ?_|(refine (Hy 4 17 ns ns.length 0 nd (iR r.id r B) r rfl mP h.wf (by omega) (by omega) (by omega) (by omega)).use [0,1,2,3,4] rfl rfl ⟨⟨_,rfl,rfl⟩,⟨_,rfl,rfl⟩,⟨_,rfl,rfl⟩,ko,ko,tU⟩ ?_;rintro _ _ ⟨rfl,pc,e1,e2,hH⟩;rcases hH with rfl|rfl;refine ⟨[],?_⟩;rotate_left;refine ⟨[5],?_⟩)|refine ae U rfl ?_)
  all_goals (try conv=>whnf)
  ·exact ⟨[0,1,2,3,4],ns,B,⟨rfl,rfl,⟨⟨_,rfl,rfl⟩,⟨_,rfl,rfl⟩,⟨_,rfl,rfl⟩,⟨_,rfl,rfl⟩,⟨_,rfl,rfl⟩,tU⟩,bc.dx _ [none,none,none,some 3,some 4] rfl,fun _=>rfl⟩,.inr (.inl ⟨by assumption,by rw[ha];rfl,rfl,rfl,rfl⟩)⟩
  ·rw[zU ha];exact ⟨[0,7,2,3,4],pc,B++[(r.id,r)],⟨rfl,rfl,⟨⟨_,rfl,rfl⟩,⟨_,rfl,rfl⟩,⟨_,rfl,rfl⟩,⟨_,rfl,rfl⟩,⟨_,rfl,rfl⟩,tU⟩,bc.dx _ [none,none,none,some 3,some 4] rfl,fun _=>rfl⟩,.inr (.inr ⟨by assumption,ha,pc,e1,hI pc e1 e2,rfl,rfl,rfl⟩)⟩
  ·rw[zU ha];exact ⟨[0,1,2,3,4],pc,B++[(r.id,r)],⟨rfl,rfl,⟨⟨_,rfl,rfl⟩,⟨_,rfl,rfl⟩,⟨_,rfl,rfl⟩,⟨_,rfl,rfl⟩,⟨_,rfl,rfl⟩,tU⟩,bc.dx _ [none,none,none,some 3,some 4] rfl,fun _=>rfl⟩,.inr (.inr ⟨by assumption,ha,pc,e1,hI pc e1 e2,rfl,rfl,rfl⟩)⟩
  ·exact ⟨[0,1,2,3,4],ns,B,⟨rfl,rfl,⟨⟨_,rfl,rfl⟩,⟨_,rfl,rfl⟩,⟨_,rfl,rfl⟩,⟨_,rfl,rfl⟩,⟨_,rfl,rfl⟩,tU⟩,bc.dx _ [none,none,none,some 3,some 4] rfl,fun _=>rfl⟩,.inl ⟨by assumption,rfl,rfl,rfl⟩⟩
  ·rename_i h;have:=of_decide_eq_false h;omega
 ·rintro v H' ⟨ρ,kZ,B',h1,h2⟩;refine ⟨ρ,_,h1,?_⟩;rcases h2 with ⟨h2,rfl,rfl,rfl⟩|⟨h2,h3,rfl,rfl,rfl⟩|⟨h2,h3,SZ,h4,h5,rfl,rfl,rfl⟩
  ·exact .inl ⟨h2,rfl,rfl⟩
  ·exact .inr (.inl ⟨h2,h3,rfl,rfl⟩)
  ·exact .inr (.inr ⟨h2,h3,_,h4,h5,rfl,rfl⟩)
theorem Mf{c:bY}(w:World):(dV [PN.leaf c]).at_ w fun _=>False:=by
 show bw (lB [PN.leaf c]) w _
 exact ⟨fun _=>False,fun _=>False,Bj,fun _ h=>h,fun _ h _=>h,fun b=>by simp⟩
theorem Vv:CP [] 130 [iA 4] [] (fun v H'=>∃a,v=.tuple [.lit (.pointer (some a)),iA 0]/\H'=[.res (Bv a [PN.leaf ⟨0,0,0⟩] [])]):=by
 refine ag.lower (K':=fun v H'=>v=.tuple [.ptr 1 0,iA 0]/\∃G1 G2 G3,H'=[.br [],.cells [iA 4,.slice 5 0 1 (.grown 10),.lit (.slice none 0 0),.map 0] CF,G1,G2,G3,.row (([PN.leaf ⟨0,0,0⟩]:List PN).flatMap zh) BV,.res (dV [PN.leaf ⟨0,0,0⟩]),.res aA]) ?_ ?_
 ·refine ag.post (K:=fun v H'=>v=.tuple [.ptr 1 0,iA 0]/\∃G1 G2 G3,H'=[.br [],.cells [iA 4,.slice 5 0 1 (.grown 10),.lit (.slice none 0 0),.map 0] CF,G1,G2,G3,.row (([PN.leaf ⟨0,0,0⟩]:List PN).flatMap zh) BV]) ?_ ?_
  ·refine ag.wk (K:=fun v H'=>v=.tuple [.ptr 1 0,iA 0]/\∃G1 G2 G3,H'=[.map [] 0,.cells [iA 4,.slice 5 0 1 (.grown 10),.lit (.slice none 0 0),.map 0] CF,G1,G2,G3,.row (([PN.leaf ⟨0,0,0⟩]:List PN).flatMap zh) BV]) ?_ ?_
   ·refine ae U rfl ?_;repeat' ((conv=>whnf);first|with_reducible apply aa<;>intro _|refine aJ.drawn U rfl rfl ?_|with_reducible refine And.intro (aG.mk ⟨_,rfl,rfl⟩) ?_|refine dP.nil Kr rfl rfl rfl rfl rfl ?_|refine ae U rfl ?_)
    all_goals (try conv=>whnf)
    exact ⟨rfl,_,_,_,rfl⟩
   ·rintro _ _ ⟨rfl,G1,G2,G3,rfl⟩;exact ⟨_,.map rfl rfl (by simp) (.same (.same (.same (.same (.same .nil))))),rfl,G1,G2,G3,rfl⟩
  ·rintro _ _ ⟨rfl,G1,G2,G3,rfl⟩;refine ⟨_,(fP.more (R:=dV [PN.leaf ⟨0,0,0⟩]) rfl ?_).trans (fP.more (R:=aA) rfl ?_),rfl,G1,G2,G3,rfl⟩
   ·exact bc.jn Mf _
   ·exact bc.BR _
 ·rintro _ _ ⟨rfl,G1,G2,G3,rfl⟩;refine ⟨[],[1,5,0,6,7],1,0,qC 4 [PN.leaf ⟨0,0,0⟩] 1 [] .nil,[iA 0],⟨rfl,rfl,tU,⟨⟨_,rfl,rfl⟩,⟨_,rfl,rfl⟩,⟨_,rfl,rfl⟩,⟨_,rfl,rfl⟩,⟨_,rfl,rfl⟩,tU⟩,bc.dx _ [none,none,none,some 6,some 7] rfl,fun _=>rfl⟩,rfl,fun a=>⟨a,rfl,rfl⟩⟩
theorem JG{x y l:Int}(h0:0<=l)(h1:l<=16)(hf:fits x y=true):(vf x y l).right=true:=by
 have hf:=of_decide_eq_true hf;have key:∀z:Int,0<=z->z<=65535->ik z (16 - l)<p2 l:=fun z hz hz1=>by
  refine Fk h0 (by omega) hz ?_;rw[show l+(16 - l)=16 by omega];show z<2 ^ (16:Int).toNat
  have:(2:Int) ^ (16:Int).toNat=65536:=by decide
  omega
 exact decide_eq_true ⟨h0,h1,oW hf.1,oW hf.2.2.1,key x hf.1 hf.2.1,key y hf.2.2.1 hf.2.2.2⟩
theorem wg{x0 y0 x1 y1:Int}(hf:fits x0 y0=true):∀(f l:Nat) (h:bY),l+f<=17->h.right=true->(uV x0 y0 x1 y1 f l h).right=true
 | 0,_,_,_,hr=>hr
 | f+1,l,h,hl,hr=>by
   simp only[uV];split
   ·exact wg hf f (l+1) _ (by omega) (JG (by omega) (by omega) hf)
   ·exact hr
theorem GV{x0 y0 x1 y1:Int}(h:oo x0 y0 x1 y1=true):(EN x0 y0 x1 y1).right=true:=by
 have hd:=of_decide_eq_true h;exact wg (decide_eq_true (by omega)) 17 0 ⟨0,0,0⟩ (by omega) (by decide)
theorem CQ{h:bY}(hr:h.right=true):iD h 0=⟨0,0,0⟩:=by
 have hR:=zT hr (Int.le_refl 0) (bY.bd hr).1;have:=of_decide_eq_true hR;have e0:p2 0=1:=by decide
 have e1:(iD h 0).l=0:=rfl;rw[e1,e0] at this;cases hc:iD h 0
 rw[hc] at this e1;simp only[] at this e1;simp only[bY.mk.injEq];omega
abbrev VH:TypeId:=238
def TD(T:QT)(B:List (Int×eA)):List af:=[.cells [.lit T.ptr,.map 1] VH,.br (mE iK MC B),.res T.R]
def Gf(a:Addr)(T:QT)(B:List (Int×eA)):aH:=AtR a 0 (TD T B)
structure FD(T:QT):Prop where
 root:∃a k0 k1 k2 k3 many l,T=.node a ⟨0,0,0⟩ k0 k1 k2 k3 many l
 wf:FH ⟨0,0,0⟩ T
theorem TE:CP [] 133 [] [] (fun v H'=>∃a T,v=.lit (.pointer (some a))/\H'=[.res (Gf a T [])]/\FD T):=by
 refine ag.lower (K':=fun v H'=>v=.ptr 2 0/\∃b,H'=[.res (QT.node b ⟨0,0,0⟩ .nil .nil .nil .nil 0 []).R,.br [],.cells [.lit (.pointer (some b)),.map 1] VH]) ?_ ?_
 ·refine ag.wk (K:=fun v H'=>v=.ptr 2 0/\∃b,H'=[.res (QT.node b ⟨0,0,0⟩ .nil .nil .nil .nil 0 []).R,.map [] 0,.cells [.lit (.pointer (some b)),.map 1] VH]) ?_ ?_
  ·refine ae U rfl ?_;repeat' ((conv=>whnf);first|with_reducible apply aa<;>intro _|(refine (wL (c:=⟨0,0,0⟩)).use [] rfl rfl trivial ?_;rintro _ _ ⟨b,rfl,rfl⟩;refine ⟨[0],?_⟩))
   all_goals (try conv=>whnf)
   exact ⟨rfl,_,rfl⟩
  ·rintro _ _ ⟨rfl,b,rfl⟩;exact ⟨_,.same (.map rfl rfl (by simp) (.same .nil)),rfl,b,rfl⟩
 ·rintro _ _ ⟨rfl,b,rfl⟩;refine ⟨[],[2,1,0],2,0,TD (QT.node b ⟨0,0,0⟩ .nil .nil .nil .nil 0 []) [],[],⟨rfl,rfl,tU,⟨⟨_,rfl,rfl⟩,⟨_,rfl,rfl⟩,⟨_,rfl,rfl⟩,tU⟩,bc.dx _ [none,none,some 0] rfl,fun _=>rfl⟩,rfl,fun a=>⟨a,_,rfl,rfl,⟨b,_,_,_,_,_,_,rfl⟩,rfl,tU,tU,tU,tU⟩⟩
theorem FR{α:Type}{id:Int}{r:α}{B:List (Int×α)}(h:cV id B=none):iR id r B=B++[(id,r)]:=by
 unfold iR;unfold cV at h;cases hf:iM id B 0 with
 | none=>rfl
 | some p=>rw[hf] at h;cases h
theorem TF{a:Addr}{T:QT}{B:List (Int×eA)}{s:eA}(h:FD T)(hr:oo s.x0 s.y0 s.x1 s.y1=true)(hs:cV s.id B=none):CP [] 54 [.lit (.pointer (some a)),.agg (sM s)] [.res (Gf a T B)] (fun v H'=>v=iA 0/\∃T',H'=[.res (Gf a T' (B++[(s.id,s)]))]/\FD T'):=by
 obtain ⟨⟨b,k0,k1,k2,k3,many,l,rfl⟩,hw⟩:=h;have hh:=GV hr;have hl:=(bY.bd hh).1;have hq:=XS hh (s:=s) (EN s.x0 s.y0 s.x1 s.y1).l.toNat 0 (Int.le_refl _) hl (by omega) b k0 k1 k2 k3 many l (by rw[CQ hh];exact hw);rw[CQ hh] at hq;refine ag.Cy (K':=fun v H'=>v=iA 0/\∃ρ T',CJ ρ 0 H' (TD T' (B++[(s.id,s)])) (iA 0)/\FD T') ?_ (fun _=>rfl) ?_
 ·refine ae U rfl ?_;repeat' ((conv=>whnf);first|with_reducible apply aa<;>intro _|refine aJ.drawn U rfl rfl ?_|with_reducible refine And.intro (aG.mk ⟨_,rfl,rfl⟩) ?_|(refine TB (x0:=s.x0) (y0:=s.y0) (x1:=s.x1) (y1:=s.y1) ?_;rw[hr,if_pos rfl])|refine ai.lx _ pH dC rfl rfl rfl rfl (fun a ha=>by rw[hs] at ha;cases ha) (fun ha=>?_)|refine And.intro (aG.look _ pH dC rfl rfl rfl rfl rfl (by assumption) rfl rfl) ?_|refine ai.dg (key:=s.id) (a:=s) pH dC rfl rfl rfl rfl rfl rfl rfl rfl ?_|(refine hq.use [2] rfl rfl ⟨ko,tU⟩ ?_;rintro _ _ ⟨rfl,j0,j1,j2,j3,jm,jl,rfl,jw⟩;refine ⟨[],?_⟩)|refine ae U rfl ?_)
  all_goals (try conv=>whnf)
  rw[FR hs];exact ⟨rfl,[0,1,2],.node b ⟨0,0,0⟩ j0 j1 j2 j3 jm jl,⟨rfl,rfl,⟨⟨_,rfl,rfl⟩,⟨_,rfl,rfl⟩,⟨_,rfl,rfl⟩,tU⟩,bc.dx _ [none,none,some 2] rfl,fun _=>rfl⟩,⟨b,j0,j1,j2,j3,jm,jl,rfl⟩,jw⟩
 ·rintro v H' ⟨rfl,ρ,T',h1,h2⟩;exact ⟨ρ,_,h1,rfl,T',rfl,h2⟩
end Go.Proofs.YtmbdghclhpboaaaGreat
namespace Go.Proofs.YtmbdghclhpboaaaGreat
def vD:List (List UInt8):=[[114,111,108,101],[108,97,98,101,108],[114,101,103,105,111,110],[97,108,108,111,119],[99,97,112],[99,108,111,97,107],[97,110,121],[97,108,108],[116,105,101,114],[105,110],[122,111,111,109]]
def isWord(s:List UInt8):Bool:=vD.any (fun w=>decide (s=w))
def isLet(c:UInt8):Bool:=decide (97<=c.toNat/\c.toNat<=122)
def bV(c:UInt8):Bool:=decide (48<=c.toNat/\c.toNat<=57)
def cQ(c:UInt8):Bool:=isLet c || bV c || decide (c.toNat=45)
def dG(c:UInt8):Bool:=decide (c.toNat=32\/c.toNat=10)
def fF(c:UInt8):Bool:=decide (c.toNat=35)
def gj(c:UInt8):Bool:=decide (c.toNat≠10)
def iP(s:List UInt8):Bool:=decide (0<s.length/\s.length<=16)&&isLet (s.headD 0)&&!isWord s&&s.all cQ
structure Pt where
 i:Nat
 line:Nat
 aS:Nat
def Pt.step(p:Pt)(c:UInt8):Pt:=⟨p.i+1,if c.toNat=10 then p.line+1 else p.line,if c.toNat=10 then 1 else p.aS+1⟩
def Pt.ju(p:Pt)(l:List UInt8):Pt:=l.foldl Pt.step p
theorem Pt.CO(p:Pt)(c:UInt8)(l:List UInt8):p.ju (c::l)=(p.step c).ju l:=rfl
theorem Pt.vH(p:Pt)(l m:List UInt8):p.ju (l++m)=(p.ju l).ju m:=List.foldl_append
theorem Pt.uB(l:List UInt8):∀(p:Pt),(p.ju l).i=p.i+l.length:=by
 induction l with
 | nil=>intro p;rfl
 | cons c l ih=>intro p;rw[Pt.CO,ih];simp[Pt.step];omega
def Pt.low(p:Pt):Prop:=p.line<=p.i+1/\p.aS<=p.i+1
theorem Pt.Dk{p:Pt}(h:p.low)(c:UInt8):(p.step c).low:=by
 unfold Pt.low Pt.step at *;simp only;split<;>omega
theorem Pt.n7(l:List UInt8):∀{p:Pt},p.low->(p.ju l).low:=by
 induction l with
 | nil=>intro p h;exact h
 | cons c l ih=>intro p h;rw[Pt.CO];exact ih (Pt.Dk h c)
def Pt.zero:Pt:=⟨0,1,1⟩
theorem Pt.xH:Pt.zero.low:=⟨Nat.le_refl _,Nat.le_refl _⟩
def qI:Nat->List UInt8->Nat
 | 0,_=>0
 | k+1,l=>
   let n:=(l.takeWhile dG).length
   match l.drop n with
   | []=>n
   | c :: r=>if fF c then
       let m:=((c::r).takeWhile gj).length
       n+m+qI k ((c::r).drop m)
    else n
def dW(l:List UInt8):Nat:=qI (l.length+1) l
def qZ(s:List UInt8):Nat:=s.foldl (fun n c=>min 65536 (10 * n+(c.toNat - 48))) 0
def kO(s:List UInt8):Nat×Bool:=if 1<s.length/\s.headD 0=48 then (0,false) else (qZ s,decide (qZ s<=65535))
structure Tk where
 kind:Nat
 text:List UInt8
 n:Nat
 line:Nat
 aS:Nat
deriving DecidableEq
def Tk.none:Tk:=⟨0,[],0,0,0⟩
def b9(l:List UInt8):Tk×Nat:=
 match l with
 | []=>(Tk.none,30)
 | c::r=>
   if isLet c then
    let w:=(c::r).takeWhile cQ
    (⟨if isWord w then 2 else 1,w,0,0,0⟩,if 16<w.length then 2 else 0)
   else if bV c then
    let w:=(c::r).takeWhile bV
    if (kO w).2 then (⟨3,w,(kO w).1,0,0⟩,0) else (⟨3,w,0,0,0⟩,10)
   else if c.toNat=61\/c.toNat=43\/c.toNat=59 then (⟨4,[c],0,0,0⟩,0)
   else if c.toNat=46/\r.head?=some 46 then (⟨4,[46,46],0,0,0⟩,0)
   else (Tk.none,30)
structure jK where
 err:Nat
 line:Nat
 aS:Nat
deriving DecidableEq
def jK.ok:jK:=⟨0,0,0⟩
def iQ:Nat->List UInt8->Pt->List Tk->List Tk×jK
 | 0,_,_,out=>(out,jK.ok)
 | k+1,l,p,out=>
   let n:=dW l
   let q:=p.ju (l.take n)
   match l.drop n with
   | []=>(out,jK.ok)
   | c::r=>
     let t:=b9 (c::r)
     if t.2=0 then iQ k ((c::r).drop t.1.text.length) (q.ju ((c::r).take t.1.text.length)) (out++[{ t.1 with line:=q.line,aS:=q.aS }])
     else ([],⟨t.2,q.line,q.aS⟩)
def dp(s:List UInt8):List Tk×jK:=if 512<s.length then ([],⟨2,1,1⟩) else iQ (s.length+1) s Pt.zero []
def jV(s:List UInt8):Pt:=Pt.zero.ju s
theorem en{α:Type}(p:α->Bool):∀(l:List α),(l.takeWhile p).length<=l.length
 | []=>Nat.le_refl _
 | a::l=>by
   unfold List.takeWhile;split
   ·simp[en p l]
   ·simp
theorem DO:∀(k:Nat) (l:List UInt8),qI k l<=l.length
 | 0,l=>Nat.zero_le _
 | k+1,l=>by
   have h1:=en dG l;unfold qI;simp only;split
   ·exact h1
   ·rename_i c r e;split
    ·have h2:=en gj (c::r);have h3:=DO k ((c::r).drop ((c::r).takeWhile gj).length);have h4:(c::r).length=l.length - (l.takeWhile dG).length:=by rw[<-e,List.length_drop]
     rw[List.length_drop] at h3;omega
    ·exact h1
theorem DQ(l:List UInt8):dW l<=l.length:=DO _ _
theorem od(c:UInt8)(r:List UInt8)(h:(b9 (c::r)).2=0):0<(b9 (c::r)).1.text.length/\(b9 (c::r)).1.text=(c::r).take (b9 (c::r)).1.text.length:=by
 have tw:∀(p:UInt8->Bool),p c=true->0<((c::r).takeWhile p).length/\(c::r).takeWhile p=(c::r).take ((c::r).takeWhile p).length:=fun p hp=>by
  refine ⟨by simp[List.takeWhile_cons,hp],?_⟩;have:=List.takeWhile_prefix p (l:=c::r);exact (List.prefix_iff_eq_take.1 this)
 unfold b9 at h ⊢;simp only at h ⊢;by_cases h1:isLet c=true
 ·simp only[h1,if_true];exact tw cQ (by simp[cQ,h1])
 ·simp only[h1] at h ⊢;by_cases h2:bV c=true
  ·simp only[h2,if_true] at h ⊢;by_cases h3:(kO ((c::r).takeWhile bV)).2=true
   ·simp only[h3,if_true] at h ⊢;exact tw bV h2
   ·simp[h3] at h
  ·simp only[h2] at h ⊢;by_cases h4:c.toNat=61\/c.toNat=43\/c.toNat=59
   ·simp[h4]
   ·simp only[h4,if_false] at h ⊢;by_cases h5:c.toNat=46/\r.head?=some 46
    ·simp only[h5,and_self,if_true];obtain ⟨h6,h7⟩:=h5;cases r with
     | nil=>simp at h7
     | cons d r=>
       simp only[List.head?_cons,Option.some.injEq] at h7;subst h7;have:c=46:=UInt8.toNat_inj.1 (by rw[h6];rfl);subst this;simp
    ·simp[h5] at h
def iu(pr:UInt8->Bool):List UInt8->Bool
 | []=>false
 | c::_=>pr c
theorem Ke(pr:UInt8->Bool):∀(l:List UInt8) (k:Nat),k<(l.takeWhile pr).length->iu pr (l.drop k)=true
 | [],k,h=>by simp at h
 | c::l,k,h=>by
   rw[List.takeWhile_cons] at h;by_cases hc:pr c=true
   ·rw[if_pos hc] at h;cases k with
    | zero=>exact hc
    | succ k=>exact Ke pr l k (by simpa using h)
   ·rw[if_neg hc] at h;simp at h
theorem zK(pr:UInt8->Bool):∀(l:List UInt8),iu pr (l.drop (l.takeWhile pr).length)=false
 | []=>rfl
 | c::l=>by
   rw[List.takeWhile_cons];by_cases hc:pr c=true
   ·rw[if_pos hc];exact zK pr l
   ·rw[if_neg hc];simpa [iu] using hc
theorem pS(pr:UInt8->Bool)(l:List UInt8):l.takeWhile pr=l.take (l.takeWhile pr).length:=List.prefix_iff_eq_take.1 (List.takeWhile_prefix pr)
theorem xL{pr:UInt8->Bool}{l:List UInt8}(h:iu pr l=true):0<l.length:=by
 cases l with
 | nil=>cases h
 | cons c r=>simp
theorem oT(l:List UInt8)(h:iu fF l=true):0<(l.takeWhile gj).length:=by
 cases l with
 | nil=>cases h
 | cons c r=>
   have h1:c.toNat=35:=by simpa [iu,fF] using h
   simp[List.takeWhile_cons,gj,h1]
theorem xX(k:Nat)(l:List UInt8):qI (k+1) l=if iu fF (l.drop (l.takeWhile dG).length) then (l.takeWhile dG).length+((l.drop (l.takeWhile dG).length).takeWhile gj).length+qI k ((l.drop (l.takeWhile dG).length).drop ((l.drop (l.takeWhile dG).length).takeWhile gj).length) else (l.takeWhile dG).length:=by
 conv=>lhs;unfold qI
 simp only;cases h:l.drop (l.takeWhile dG).length with
 | nil=>simp[iu]
 | cons c r=>rfl
theorem yU:∀(k j:Nat) (l:List UInt8),l.length<k->l.length<j->qI k l=qI j l
 | 0,_,l,h,_=>by omega
 | _,0,l,_,h=>by omega
 | k+1,j+1,l,h1,h2=>by
   rw[xX,xX];split
   ·rename_i hc;have h3:=oT _ hc;have h4:=xL hc;rw[yU k j _ (by simp only[List.length_drop] at h4 ⊢;omega) (by simp only[List.length_drop] at h4 ⊢;omega)]
   ·rfl
theorem DP(l:List UInt8):dW l=if iu fF (l.drop (l.takeWhile dG).length) then (l.takeWhile dG).length+((l.drop (l.takeWhile dG).length).takeWhile gj).length+dW ((l.drop (l.takeWhile dG).length).drop ((l.drop (l.takeWhile dG).length).takeWhile gj).length) else (l.takeWhile dG).length:=by
 rw[dW,xX];split
 ·rename_i hc;have h3:=oT _ hc;have h4:=xL hc;rw[dW];congr 1;exact yU _ _ _ (by simp only[List.length_drop] at h4 ⊢;omega) (Nat.lt_succ_self _)
 ·rfl
theorem yV:∀(k j:Nat) (l:List UInt8) (p:Pt) (out:List Tk),l.length<k->l.length<j->iQ k l p out=iQ j l p out
 | 0,_,l,_,_,h,_=>by omega
 | _,0,l,_,_,_,h=>by omega
 | k+1,j+1,l,p,out,h1,h2=>by
   unfold iQ;simp only;cases e:l.drop (dW l) with
   | nil=>rfl
   | cons c r=>
     simp only;split
     ·rename_i hz;obtain ⟨h3,-⟩:=od c r hz;have h4:(c::r).length<=l.length:=by rw[<-e,List.length_drop];omega
      exact yV k j _ _ _ (by rw[List.length_drop];simp only[List.length_cons] at h4 ⊢;omega) (by rw[List.length_drop];simp only[List.length_cons] at h4 ⊢;omega)
     ·rfl
def jr(l:List UInt8)(p:Pt)(out:List Tk):List Tk×jK:=iQ (l.length+1) l p out
theorem B5(l:List UInt8)(p:Pt)(out:List Tk)(h:l.drop (dW l)=[]):jr l p out=(out,jK.ok):=by
 unfold jr iQ;simp only[h]
theorem B4(l m:List UInt8)(p:Pt)(out:List Tk)(h:l.drop (dW l)=m)(h0:m≠[])(hz:(b9 m).2≠0):jr l p out=([],⟨(b9 m).2,(p.ju (l.take (dW l))).line,(p.ju (l.take (dW l))).aS⟩):=by
 unfold jr iQ;simp only[h];cases m with
 | nil=>exact absurd rfl h0
 | cons c r=>simp only[if_neg hz]
theorem yW(l m:List UInt8)(p:Pt)(out:List Tk)(h:l.drop (dW l)=m)(h0:m≠[])(hz:(b9 m).2=0) :
  jr l p out=jr (m.drop (b9 m).1.text.length) ((p.ju (l.take (dW l))).ju (m.take (b9 m).1.text.length)) (out++[{ (b9 m).1 with line:=(p.ju (l.take (dW l))).line,aS:=(p.ju (l.take (dW l))).aS }]):=by
 cases m with
 | nil=>exact absurd rfl h0
 | cons c r=>
   obtain ⟨h3,-⟩:=od c r hz;have h4:(c::r).length<=l.length:=by rw[<-h,List.length_drop];omega
   rw[jr,iQ];simp only[h,if_pos hz];exact yV _ _ _ _ _ (by rw[List.length_drop];simp only[List.length_cons] at h4 ⊢;omega) (by rw[List.length_drop];simp only[List.length_cons];omega)
structure fQ where
 any:Bool
 name:List UInt8
 n:Nat
 line:Nat
 aS:Nat
deriving DecidableEq
def fQ.zero:fQ:=⟨false,[],0,0,0⟩
structure Bx where
 x0:Nat
 y0:Nat
 x1:Nat
 y1:Nat
deriving DecidableEq
structure Dc where
 kind:Nat
 name:List UInt8
 n:Nat
 boxes:List Bx
 role:fQ
 lo:Nat
 hi:Nat
 label:fQ
 wh:fQ
 bO:Nat
 line:Nat
 aS:Nat
def Dc.zero:Dc:=⟨0,[],0,[],fQ.zero,0,0,fQ.zero,fQ.zero,0,0,0⟩
structure Pr where
 l:List Tk
 bad:Option (Nat×Nat)
def Pr.place(e:Nat×Nat)(p:Pr):Nat×Nat:=match p.l with
 | t::_=>(t.line,t.aS)
 | []=>e
def Pr.aV(e:Nat×Nat)(p:Pr):Pr:=match p.bad with
 | none=>⟨p.l,some (p.place e)⟩
 | some _=>p
def Pr.is(s:List UInt8)(p:Pr):Bool:=p.bad.isNone&&(match p.l with
 | t::_=>decide (t.text=s)
 | []=>false)
def Pr.kind(k:Nat)(p:Pr):Bool:=p.bad.isNone&&(match p.l with
 | t::_=>decide (t.kind=k)
 | []=>false)
def Pr.on(p:Pr):Pr:=⟨p.l.tail,p.bad⟩
def Pr.want(e:Nat×Nat)(s:List UInt8)(p:Pr):Pr:=if p.is s then p.on else p.aV e
def Pr.take(e:Nat×Nat)(k:Nat)(p:Pr):Tk×Pr:=if p.kind k then (p.l.headD Tk.none,p.on) else (Tk.none,p.aV e)
section
variable(e:Nat×Nat)
def ov:List UInt8:=[97,110,121]
def BU:List UInt8:=[97,108,108]
def bQ:List UInt8:=[114,111,108,101]
def bK:List UInt8:=[108,97,98,101,108]
def bX:List UInt8:=[114,101,103,105,111,110]
def dc:List UInt8:=[97,108,108,111,119]
def iH:List UInt8:=[99,97,112]
def eF:List UInt8:=[99,108,111,97,107]
def qO:List UInt8:=[116,105,101,114]
def Fs:List UInt8:=[105,110]
def sR:List UInt8:=[122,111,111,109]
def x7:List UInt8:=[46,46]
def gl(p:Pr):List UInt8×Pr:=((p.take e 1).1.text,(p.take e 1).2)
def fy(p:Pr):Nat×Pr:=((p.take e 3).1.n,(p.take e 3).2)
def ij(p:Pr):fQ×Pr:=
 let w:=p.place e
 if p.is ov then (⟨true,[],0,w.1,w.2⟩,p.on)
 else if p.kind 1 then (⟨false,(gl e p).1,0,w.1,w.2⟩,(gl e p).2)
 else (⟨false,[],(fy e p).1,w.1,w.2⟩,(fy e p).2)
def fZ(p:Pr):fQ×Pr:=
 let w:=p.place e
 if p.is BU then (⟨true,[],0,w.1,w.2⟩,p.on)
 else (⟨false,(gl e p).1,0,w.1,w.2⟩,(gl e p).2)
def fY(p:Pr):Nat×Nat×Pr:=
 if p.is ov then (0,7,p.on)
 else
  let a:=fy e p
  if a.2.is x7 then (a.1,fy e a.2.on)
  else (a.1,a.1,a.2)
def gG(p:Pr):Bx×Pr:=
 let a:=fy e p
 let b:=fy e a.2
 let c:=fy e b.2
 let d:=fy e c.2
 (⟨a.1,b.1,c.1,d.1⟩,d.2)
def fu:Nat->Pr->List Bx->List Bx×Pr
 | 0,p,out=>(out,p)
 | k+1,p,out=>if p.is [43] then fu k (gG e p.on).2 (out++[(gG e p.on).1]) else (out,p)
def bt(p:Pr):List Bx×Pr:=fu e p.l.length (gG e p).2 [(gG e p).1]
def fG(d:Dc)(p:Pr):Dc×Pr:=
 let a:=gl e p
 let b:=fy e (a.2.want e [61])
 ({ d with name:=a.1,n:=b.1 },b.2)
def ei(d:Dc)(p:Pr):Dc×Pr:=
 let a:=gl e p
 let b:=bt e (a.2.want e [61])
 ({ d with name:=a.1,boxes:=b.1 },b.2)
def eh(d:Dc)(p:Pr):Dc×Pr:=
 let a:=ij e (p.want e bQ)
 ({ d with role:=a.1 },a.2)
def de(d:Dc)(p:Pr):Dc×Pr:=
 let c:=eh e d p
 let t:=fY e (c.2.want e qO)
 let l:=ij e (t.2.2.want e bK)
 let r:=fZ e (l.2.want e Fs)
 let z:=fy e (r.2.want e sR)
 ({ c.1 with lo:=t.1,hi:=t.2.1,label:=l.1,wh:=r.1,bO:=z.1 },z.2)
def bj(p:Pr):Dc×Pr:=
 let w:=p.place e
 let d:Dc:={ Dc.zero with line:=w.1,aS:=w.2 }
 let x:=if p.is bQ then fG e { d with kind:=1 } p.on
  else if p.is bK then fG e { d with kind:=2 } p.on
  else if p.is bX then ei e { d with kind:=3 } p.on
  else if p.is dc then de e { d with kind:=4 } p.on
  else if p.is iH then de e { d with kind:=5 } p.on
  else if p.is eF then eh e { d with kind:=6 } p.on
  else de e d (p.aV e)
 (x.1,x.2.want e [59])
def gV:Nat->Pr->List Dc->List Dc×Pr
 | 0,p,out=>(out,p)
 | k+1,p,out=>if p.l=[]\/p.bad≠none then (out,p) else gV k (bj e p).2 (out++[(bj e p).1])
end
def parse(s:List UInt8):List Dc×jK:=
 if (dp s).2.err≠0 then ([],(dp s).2)
 else
  let e:=((jV s).line,(jV s).aS)
  let r:=gV e ((dp s).1.length+1) ⟨(dp s).1,none⟩ []
  match r.2.bad with
  | none=>(r.1,jK.ok)
  | some b=>([],⟨31,b.1,b.2⟩)
def gI(w:fQ):Bool:=if w.any then decide (w.name=[]/\w.n=0) else if w.name≠[] then decide (w.n=0)&&iP w.name else decide (w.n<=65535)
def Cc(w:fQ):Bool:=gI w&&(w.any || decide (w.name≠[]))
def jH(w:fQ):Bool:=!w.any&&decide (w.name=[]/\w.n=0)
def vn(d:Dc):Bool:=gI d.role&&decide (d.lo<=65535/\d.hi<=65535/\d.bO<=65535)&&gI d.label&&Cc d.wh
def nr(d:Dc):Bool:=decide (d.lo=0/\d.hi=0/\d.bO=0)&&jH d.label&&jH d.wh
def nq(d:Dc):Bool:=decide (d.name=[]/\d.n=0/\d.boxes=[])
def oJ(l:List Bx):Bool:=l.all (fun b=>decide (b.x0<=65535/\b.y0<=65535/\b.x1<=65535/\b.y1<=65535))&&decide (l≠[])
def fx(d:Dc):Bool:=
 if d.kind=1\/d.kind=2 then iP d.name&&decide (d.n<=65535)&&decide (d.boxes=[])&&jH d.role&&nr d
 else if d.kind=3 then iP d.name&&decide (d.n=0)&&oJ d.boxes&&jH d.role&&nr d
 else if d.kind=4\/d.kind=5 then nq d&&vn d
 else if d.kind=6 then nq d&&gI d.role&&nr d
 else false
structure Rl where
 kind:Nat
 jT:Nat
 lo:Nat
 hi:Nat
 labels:Nat
 boxes:List Bx
 bO:Nat
def kI(b:Bx):Bool:=decide (b.x0<=65535/\b.y0<=65535/\b.x1<=65535/\b.y1<=65535/\b.x0<=b.x1/\b.y0<=b.y1)
structure Ck where
 jT:List (List UInt8×Nat)
 labels:List (List UInt8×Nat)
 regions:List (List UInt8×List Bx)
 rules:List Rl
 boxes:Nat
 fault:jK
def Ck.zero:Ck:=⟨[],[],[],[],0,jK.ok⟩
def Ck.aV(e line aS:Nat)(c:Ck):Ck:=if c.fault.err=0 then { c with fault:=⟨e,line,aS⟩ } else c
def assoc{β:Type}(l:List (List UInt8×β))(k:List UInt8):Option β:=(l.find? (fun x=>decide (x.1=k))).map (·.2)
def Ck.names(k:Nat)(c:Ck):List (List UInt8×Nat):=if k=1 then c.jT else c.labels
def eI(d:Dc)(c:Ck):Ck:=
 if (assoc (c.names d.kind) d.name).isSome then c.aV 20 d.line d.aS
 else if 7<d.n then c.aV 33 d.line d.aS
 else if d.kind=1 then { c with jT:=c.jT++[(d.name,d.n)] } else { c with labels:=c.labels++[(d.name,d.n)] }
def gq(d:Dc)(c:Ck):Ck:=
 if (assoc c.regions d.name).isSome then c.aV 20 d.line d.aS
 else if !d.boxes.all kI then c.aV 33 d.line d.aS
 else { c with regions:=c.regions++[(d.name,d.boxes)] }
def cP(kind:Nat)(w:fQ)(c:Ck):Nat×Ck:=
 if w.any then (255,c)
 else
  let n:=if w.name≠[] then (assoc (c.names kind) w.name).getD 0 else w.n
  let c:=if w.name≠[]/\assoc (c.names kind) w.name=none then c.aV 21 w.line w.aS else c
  if 7<n then (0,c.aV 33 w.line w.aS) else (2 ^ n,c)
def cH(w:fQ)(c:Ck):List Bx×Ck:=
 if w.any then ([⟨0,0,65535,65535⟩],c)
 else match assoc c.regions w.name with
  | some l=>(l,c)
  | none=>([],c.aV 21 w.line w.aS)
def gK(d:Dc)(c:Ck):Ck:=
 let c:=if c.rules.length=32 then c.aV 2 d.line d.aS else c
 let s:=cP 1 d.role c
 if d.kind=6 then { s.2 with rules:=s.2.rules++[⟨6,s.1,0,0,0,[],0⟩] }
 else
  let c:Ck:=if d.hi<d.lo\/7<d.hi then s.2.aV 33 d.line d.aS else s.2
  let t:=cP 2 d.label c
  let b:=cH d.wh t.2
  let c:Ck:={ b.2 with boxes:=b.2.boxes+b.1.length }
  let c:Ck:=if 32<c.boxes then c.aV 2 d.line d.aS else c
  let c:Ck:=if 16<d.bO then c.aV 33 d.line d.aS else c
  { c with rules:=c.rules++[⟨d.kind,s.1,d.lo,d.hi,t.1,b.1,d.bO⟩] }
def dJ(d:Dc)(c:Ck):Ck:=if d.kind=1\/d.kind=2 then eI d c else if d.kind=3 then gq d c else gK d c
def jO:List Dc->Ck->Ck
 | [],c=>c
 | d::r,c=>if (dJ d c).fault.err=0 then jO r (dJ d c) else dJ d c
def check(l:List Dc):List Rl×jK:=
 if !l.all fx then ([],⟨1,0,0⟩)
 else if (jO l Ck.zero).fault.err=0 then ((jO l Ck.zero).rules,jK.ok) else ([],(jO l Ck.zero).fault)
def gE(s:List UInt8):List Rl×jK:=if (parse s).2.err=0 then check (parse s).1 else ([],(parse s).2)
end Go.Proofs.YtmbdghclhpboaaaGreat
namespace Go.Proofs.YtmbdghclhpboaaaGreat.Ev
open Go.RowKit
structure g9(E:Env)(P:Program)(t:ax)(H:List af)(op:Op)(K:AV->Prop):Prop where
 out:∃v,(∀(F:di) (γ:aK) (w:World) (a:Act),aL F γ (hp H) w->Rs F γ H w->o2 γ t a.eval->∀o:Oper,o.op=op->∃x,(execOp a.eval o).run P w=.ok (.value x) w/\an γ v x)/\K v
section
variable{P:Program}{E:Env}(hE:ch P E){t:ax}{H:List af}{K:AV->Prop}
include hE
theorem g9.pure{op:Op}{v:AV}(h:bz E t (hp H) op=some (.pure v))(k:K v):g9 E P t H op K:=⟨v,fun F γ w a hR _ bD o ho=>by
 subst ho;exact oZ hE hR.toRel bD o h (.inl rfl),k⟩
theorem g9.read{op:Op}{v:AV}(h:bz E t (hp H) op=some (.read v))(k:K v):g9 E P t H op K:=⟨v,fun F γ w a hR _ bD o ho=>by
 subst ho;exact oZ hE hR.toRel bD o h (.inr rfl),k⟩
theorem g9.bJ{ty elem:TypeId}{r er:cZ}{x i:Operand}{a:Addr}{n k:Nat}{c:Nat}(hr:E.ty ty=some r)(hu:r.bg=.slice elem)(he:E.ty elem=some er)(hx:aE t x=some (.lit (.slice (some a) n c)))(hi:aE t i=some (.lit (.int .i64 (k:Int))))(hk:k<n)(h:K (.lit (.pointer (some (a.add (k * er.info.size)))))):g9 E P t H (.indexAddr ty x i) K:=
 ⟨_,fun F γ w ac hR _ bD o ho=>by
  have h1:=bD x _ hx;have h2:=bD i _ hi;rw[al] at h1 h2;refine ⟨.pointer (some (a.add (k * er.info.size))),?_,aM γ _⟩;obtain ⟨dst,op,type,pos,after,guard⟩:=o;simp only[] at ho;subst ho;simp only[execOp];refine dh ?_;rw[h1,h2];unfold Instr.indexAt;have im:(0<=(k:Int)/\(k:Int)<(n:Int)):=⟨by omega,by omega⟩;simp only[asIntOf,Instr.sureAddr,Sem.run_bind,ba hE hr w,Result.andThen_ok,hu,Sem.run_pure,im,and_self,if_true,bT hE he w,Int.toNat_natCast],h⟩
omit hE in
theorem g9.aR{ty:TypeId}{ad:Operand}{a:Addr}{i:Nat}{R:aH}{x:Value}{v:AV}(hi:H[i]?=some (.res R))(hl:∀w S,R.at_ w S->(loadVar ty a).run P w=.ok x w)(hx:aE t ad=some (.lit (.pointer (some a))))(hv:v.flat=some x)(h:K v):g9 E P t H (.load ty ad) K:=
 ⟨v,fun F γ w ac hR cJ bD o ho=>by
  have h1:=bD ad _ hx;rw[al] at h1;obtain ⟨T,hT,_⟩:=cJ.out;have AW:(cC H)[i]?=some R:=by unfold cC;rw[List.getElem?_map,hi];rfl
  obtain ⟨S1,S2,b1,_,_,_⟩:=db hT AW;refine ⟨x,?_,kx v x hv⟩;obtain ⟨dst,op,type,pos,after,guard⟩:=o;simp only[] at ho;subst ho;simp only[execOp];refine dh ?_;rw[h1];simp only[Instr.loadAt,Instr.sureAddr,Sem.run_bind,Sem.run_pure,Result.andThen_ok,hl w S1 b1],h⟩
end
def Dx(E:Env)(P:Program)(nt:Nat)(ops:List Oper)(H:List af):List Oper->ax->(ax->Prop)->Prop
 | [],t,K=>K t
 | o::rest,t,K=>match cY ops t o with
   | none=>False
   | some false=>q8 nt o.dst t aP fun t'=>Dx E P nt ops H rest t' K
   | some true=>g9 E P t H o.op (fun v=>fv v fun v=>q8 nt o.dst t v fun t'=>Dx E P nt ops H rest t' K)
section
variable{P:Program}{E:Env}(hE:ch P E)
include hE
omit hE in
theorem BA{nt:Nat}(hn:nt<=aU){ops:Array Oper}{H:List af}{F:di}{γ:aK}{w:World}(hR:Rl F γ H w){K:ax->Prop}{Q:Act->Prop}(hK:∀t a,K t->cE γ nt t a->Q a) :
  ∀(l:List Oper) (t:ax) (a:Act),Dx E P nt ops.toList H l t K->cE γ nt t a->wpStill P ops w Q l a
 | [],t,a,h,hT=>hK t a h hT
 | o::rest,t,a,h,hT=>by
   simp only[Dx] at h;simp only[wpStill];cases hw:cY ops.toList t o with
   | none=>rw[hw] at h;exact h.elim
   | some b=>
     rw[hw] at h;have jS:=oC (a:=a) (γ:=γ) (n:=nt) hw fun d u _ hu=>hT.get d u hu;cases b with
     | false=>
       rw[jS];obtain ⟨t1,nj,hk⟩:=lC h;exact BA hn hR hK rest t1 _ hk (nu hT nj hn (aM γ _))
     | true=>
       rw[jS];obtain ⟨v,hv,hk⟩:=h.out;obtain ⟨x,h1,h2⟩:=hv F γ w a hR.rel hR.rs hT.aE o rfl;obtain ⟨t1,nj,hk⟩:=lC (rV hk);simp only[if_true,Oper.still,h1,Oper.stillUpon_value];exact BA hn hR hK rest t1 _ hk (nu hT nj hn h2)
theorem IA{n:Nat}(hn:n<=aU){ops:Array Oper}{Q:Exit->Act->World->Prop}{L:ax->List af->Prop}:∀(l:List Oper) (i:Nat) (t:ax) (H:List af) (γ:aK) (F:di) (w:World) (a:Act),
  wpOps E P n ops.toList l t H L->ops.toList.drop i=l->Rl F γ H w->cE γ n t a ->
  (∀t' H' aq a' w',L t' H'->Rl F aq H' w'->cE aq n t' a'->Ext γ aq->Q .normal a' w')->wpList P ops Q l a w
 | [],i,t,H,γ,F,w,a,h,hd,hR,hT,hQ=>hQ t H γ a w h hR hT (.refl γ)
 | o::rest,i,t,H,γ,F,w,a,h,hd,hR,hT,hQ=>by
   have hi:ops[i]?=some o:=by
    have h1:ops.toList[i]?=some o:=by
     have:(ops.toList.drop i)[0]?=some o:=by rw[hd];rfl
     rw[List.getElem?_drop] at this;simpa using this
    simpa using h1
   have qk:ops.toList.drop (i+1)=rest:=by
    have:=congrArg List.tail hd;simpa [List.tail_drop] using this
   simp only[wpOps] at h;have hw:wpOp P ops Q i (wpList P ops Q rest) a w:=DU hE h hi hR hT fun v H1 eT x w1 hk fq hx fg=>by
    obtain ⟨t1,hp,hk⟩:=lC (rV hk);exact IA hn rest (i+1) t1 H1 eT F w1 _ hk qk fq (nu (hT.mono fg) hp hn hx) fun t' H' aq a' w' h1 h2 h3 h4=>hQ t' H' aq a' w' h1 h2 h3 (fg.trans h4)
   unfold wpOp at hw;simp only[hi] at hw;exact hw
theorem aJ.tail{id nt k:Nat}{l:List Oper}{t:ax}{H:List af}{Q:fp->ax->List af->Prop}(n:Nat)(hn:Nat.ble nt aU=true)(hB:Region.lexTailB .any l.toArray n=true)
  (h:Dx E P nt l H (l.take n) t (fun t'=>wpOps E P nt l (l.drop n) t' H (fun t H=>Q .normal t H))):aJ P nt k (.region id l.toArray true) t H Q:=⟨fun F γ w a R hR hT hQ=>by
 have hn:=Nat.le_of_ble_eq_true hn;refine wp_region_still_tail n hE.wide hB ?_;obtain ⟨T,lX,lY⟩:=hR.rs.out;have fq:Rl F γ H { w with drawn:=w.drawn+1 }:=⟨hR.rel.heap rfl,hR.pl,⟨T,il lX fun b _=>rfl,lY⟩⟩;refine BA hn (ops:=l.toArray) fq (K:=fun t'=>wpOps E P nt l (l.drop n) t' H (fun t H=>Q .normal t H)) (fun t' a' hk fT=>?_) (l.take n) t a h hT;exact IA hE hn (ops:=l.toArray) (l.drop n) n t' H γ F _ a' hk (by simp) fq fT fun t2 H2 gF a2 w2 h1 h2 h3 h4=>hQ .normal t2 H2 gF a2 w2 h1 h2 h3 (.zD h4 k)⟩
end
section
variable{P:Program}{E:Env}(hE:ch P E){S:List Nat}{t:ax}{H:List af}{K:AV->List af->Prop}
include hE
theorem ai.XZ{ty elem:TypeId}{r er:cZ}{x lo:Operand}{A:Option Addr}{n c j:Nat}{q:IntKind}(hr:E.ty ty=some r)(hu:r.bg=.slice elem)(he:E.ty elem=some er)(hx:aE t x=some (.lit (.slice A n c)))(hl:aE t lo=some (.lit (.int q (j:Int))))(hj:j<=n)(h:K (.lit (.slice (Ag A c j er.info.size) (n - j) (c - j))) H):ai E P true S t H (.slice ty x (some lo) none none) K:=
 ⟨.inr ⟨rfl,⟨fun F γ w ρ hR cx cJ bD o ho=>by
  have h1:=bD x _ (by simp[Op.operands]) hx;have h2:=bD lo _ (by simp[Op.operands]) hl;rw[al] at h1 h2;refine ⟨_,H,γ,.value (.slice (Ag A c j er.info.size) (n - j) (c - j)),w,?_,.inl ⟨_,rfl,aM γ _⟩,h,hR,.refl γ _,cx,cJ⟩;obtain ⟨dst,op,type,pos,after,guard⟩:=o;simp only[] at ho;subst ho;simp only[execOp];refine dh ?_;simp only[Option.map_some,Option.map_none,h1,h2];have rk:(underlying ty).run P w=.ok (.slice elem) w:=by rw[ba hE hr w,hu]
  unfold Instr.sliceAt;simp only[Sem.run_bind,rk,Result.andThen_ok];exact uw (by rw[hE.bg ty r hr,hu]) (fun w=>bT hE he w) w A n c j q hj⟩⟩⟩
end
section
variable{P:Program}{E:Env}(hE:ch P E){S:List Nat}{t:ax}{H:List af}{K:AV->List af->Prop}
include hE
end
theorem lU{γ:aK}:∀{l1 l2:List AV} {xs:List Value},az γ (l1++l2) xs↔∃x1 x2,xs=x1++x2/\az γ l1 x1/\az γ l2 x2
 | [],l2,xs=>⟨fun h=>⟨[],xs,rfl,rfl,h⟩,fun ⟨x1,x2,h1,h2,h3⟩=>by
   simp only[az] at h2;subst h1 h2;exact h3⟩
 | v::l1,l2,xs=>by
   constructor
   ·rintro ⟨x,ys,rfl,h1,h2⟩;obtain ⟨x1,x2,rfl,h3,h4⟩:=lU.1 h2;exact ⟨x::x1,x2,rfl,⟨x,x1,rfl,h1,h3⟩,h4⟩
   ·rintro ⟨_,x2,rfl,⟨x,x1,rfl,h1,h3⟩,h4⟩;exact ⟨x,x1++x2,rfl,h1,lU.2 ⟨x1,x2,rfl,h3,h4⟩⟩
def FE(o:Nat)(u:AV):Prop:=∀g:Nat->Nat,(∀q,q≠o->g q=q)->u.cG g=u
theorem Lu{γ aq:aK}{o:Nat}(h:∀i,i≠o->aq i=γ i){u:AV}(hu:FE o u){x:Value}(k:an γ u x):an aq u x:=by
 have hg:=hu (fun i=>if i=o then o+1 else i) (fun i hi=>if_neg hi);rw[<-hg] at k ⊢;rw[eJ] at k ⊢;have e:(fun i=>γ (if i=o then o+1 else i))=fun i=>aq (if i=o then o+1 else i):=funext fun i=>by
  by_cases hi:i=o
  ·simp only[if_pos hi];exact (h _ (by omega)).symm
  ·simp only[if_neg hi];exact (h _ hi).symm
 rw[<-e];exact k
theorem nO{γ aq:aK}{o:Nat}(h:∀i,i≠o->aq i=γ i):∀{l:List AV} {xs:List Value},(∀u∈l,FE o u)->az γ l xs->az aq l xs
 | [],_,_,k=>k
 | u::l,_,hu,⟨x,xs,e,h1,h2⟩=>⟨x,xs,e,Lu h (hu u (by simp)) h1,nO h (fun v hv=>hu v (by simp[hv])) h2⟩
theorem ag.XH(Ge:List AV->AV){cv:Array Value->Value}(GO:∀γ l x,an γ (Ge l) x↔∃a:Array Value,x=cv a/\az γ l a.toList){P:Program}{f:Nat}{args:List AV}{H:List af}{K' K:AV->List af->Prop}(c:ag P [] f args H K')
  (hk:∀v H',K' v H'->K v H'\/∃(l1 l2:List AV) (o n:Nat) (cap:o0) (xs:List Value) (e:TypeId),v=Ge (l1++.slice o 0 n cap::l2)/\0<n/\H'[o]?=some (.row xs e)/\(∀u∈l1++l2,FE o u)/\∀b off m,K (Ge (l1++.lit (.slice (some ⟨b,off,none⟩) n m)::l2)) (H'.set o (.res (kF ⟨b,off,none⟩ xs)))):ag P [] f args H K:=⟨fun F γ w ys hR cx cJ rm=>by
 obtain ⟨c1,c2⟩:=c.out F γ w ys hR cx cJ rm;refine ⟨c1,fun R fj=>c2 R fun v H' aq x w' k1 k2 k3=>?_⟩;rcases hk v H' k1 with h|⟨l1,l2,o,n,cap,xs,e,rfl,hn,ho,nU,h⟩
 ·exact fj v H' aq x w' h k2 k3
 ·obtain ⟨a,rfl,k4⟩:=(GO _ _ _).1 k2;obtain ⟨x1,x2,hx,q1,q2⟩:=lU.1 k4;obtain ⟨y,x3,rfl,q3,q4⟩:=q2;simp only[an] at q3;obtain ⟨ad,m,rfl,dj,LU,_⟩:=q3;have dj:=dj.resolve_left (by omega);have rj:o<H'.length:=cM ho;have Cr:aq o≠none:=k3.pl o rj (by simp);have aN:∃p,aq o=some (some p):=by
   cases hg:aq o with
   | none=>exact absurd hg Cr
   | some q=>
     cases q with
     | some p=>exact ⟨p,rfl⟩
     | none=>
       have h1:=k3.rel.gone o hg;rw[aT k3.rel.aU] at h1;rw[ho] at h1;cases h1
  obtain ⟨p,bN⟩:=aN;unfold gz at dj;rw[bN] at dj;simp only[Nat.add_zero] at dj;subst dj;obtain ⟨h1,h2,h3⟩:=uY k3.rel k3.rs bN (.inl ho);have g1:∀i,i≠o->(fJ aq o none) i=aq i:=fun i h=>bU _ _ h;refine fj _ _ _ _ w' (h _ _ m) ((GO _ _ _).2 ⟨_,rfl,lU.2 ⟨x1,_,hx,nO g1 (fun u hu=>nU u (by simp[hu])) q1,_,_,rfl,aM _ _,nO g1 (fun u hu=>nU u (by simp[hu])) q4⟩⟩) ⟨h1,k3.step.trans h3,fun q hq _=>?_,h2⟩;by_cases e:q=o
  ·rw[e,bu];simp
  ·rw[bU _ _ e];exact k3.pl q (by simpa using hq) (by simp)⟩
theorem ag.XJ{P:Program}{f:Nat}{args:List AV}{H:List af}{K' K:AV->List af->Prop}(c:ag P [] f args H K')
  (hk:∀v H',K' v H'->K v H'\/∃(l1 l2:List AV) (o n:Nat) (cap:o0) (xs:List Value) (e:TypeId),v=.tuple (l1++.slice o 0 n cap::l2)/\0<n/\H'[o]?=some (.row xs e)/\(∀u∈l1++l2,FE o u)/\∀b off m,K (.tuple (l1++.lit (.slice (some ⟨b,off,none⟩) n m)::l2)) (H'.set o (.res (kF ⟨b,off,none⟩ xs)))):ag P [] f args H K:=ag.XH .tuple (fun _ _ _=>Iff.rfl) c hk
end Go.Proofs.YtmbdghclhpboaaaGreat.Ev
