/- Part of the proof: Pt2 Cif2 LexP PolP RulP SyN SyO. Conditions: as each states. -/
import Derived.Test.YtmbdghclhpboaaaGreatPq25
set_option linter.all false
set_option maxRecDepth 100000
namespace Go.Proofs.YtmbdghclhpboaaaGreat
open Ev
theorem WQ{S:List Nat}{H:List ai}{K:AV->List ai->Prop}{x y:Int}(k:K (bA (fits x y)) H):CP S 213 [.agg [iA x,iA y]] H K:=by
 refine aj.pure ?_ (fun _=>rfl) (fun _=>rfl) k;refine ag aa rfl ?_;repeat' ((conv=>whnf);first|with_reducible apply af<;>intro _|refine ag aa rfl ?_)
 all_goals
  refine bc ?_
  unfold fits
  simp_all
 all_goals omega
def Cx(a:Addr)(ns:List PN)(B:List (Int×bW)):aC:=AtR a 0 (rC 4 ns ns.length B .nil)
structure Fj(ns:List PN)(B:List (Int×bW)):Prop where
 wf:oK 4 QP ⟨En ns,[]⟩
 root:∃nd,ns[0]?=some nd
 len:ns.length<=1+64 * B.length
 iN:iN (En ns)<=B.length
theorem TY{ns:List PN}{B:List (Int×bW)}{G:List ai}{v:AV}(hv:∀g,v.cI g=v):DP [0,1,2,3,4] 0 (rC 4 ns ns.length B .nil++G) (rC 4 ns ns.length B .nil) v:=
 ⟨rfl,rfl,⟨⟨_,rfl,rfl⟩,⟨_,rfl,rfl⟩,⟨_,rfl,rfl⟩,⟨_,rfl,rfl⟩,⟨_,rfl,rfl⟩,tU⟩,bj.cons _ (bj.cons _ (bj.cons _ (bj.cons _ (bj.cons _ (bj.all _))))),hv⟩
theorem Q5{ns:List PN}{B:List (Int×bW)}{id:Int}(hn:0<ns.length):CP [] 229 [.ptr 0 0,iA id] (rC 4 ns ns.length B .nil) (fun v H'=>v=.tuple [.agg (lE ((dy id B).getD ⟨0,0,0,0⟩)),bA (dy id B).isSome]/\∃G,H'=rC 4 ns ns.length B .nil++G):=by
 refine ag aa rfl ?_;repeat' ((conv=>whnf);first|with_reducible apply af<;>intro _|refine al.lY _ tE dY rfl rfl rfl rfl (fun a ha=>?_) (fun ha=>?_)|refine And.intro (aN.look _ tE dY rfl rfl rfl rfl rfl (by assumption) rfl rfl) ?_|refine ag aa rfl ?_)
 all_goals (try conv=>whnf)
 ·rw[ha];exact ⟨rfl,_,rfl⟩
 ·rw[ha];exact ⟨rfl,_,rfl⟩
 ·rename_i h;have:=dF1 h;omega
theorem Q6{a:Addr}{ns:List PN}{B:List (Int×bW)}{id:Int}(hn:0<ns.length):CP [] 229 [.lit (.pointer (some a)),iA id] [.res (Cx a ns B)] (fun v H'=>v=.tuple [.agg (lE ((dy id B).getD ⟨0,0,0,0⟩)),bA (dy id B).isSome]/\H'=[.res (Cx a ns B)]):=
 aj.DG (Q5 hn) (fun _=>rfl) fun v H' h=>by
  obtain ⟨rfl,G,rfl⟩:=h;exact ⟨[0,1,2,3,4],rC 4 ns ns.length B .nil,TY fun _=>rfl,rfl,rfl⟩
theorem AZ{id:Int}{r:bW}{B:List (Int×bW)}(h:dy id B=none):jx id r B=B++[(id,r)]:=by
 unfold jx;unfold dy at h;cases hf:jr id B 0 with
 | none=>rfl
 | some p=>rw[hf] at h;cases h
def OW(ns:List PN)(B:List (Int×bW))(r:bW)(K:AV->List PN->List (Int×bW)->Prop):Prop:=
 (fits r.x r.y=false/\K (iA 1) ns B)\/(fits r.x r.y=true/\(dy r.id B).isSome=true/\K (iA 20) ns B) \/
 (fits r.x r.y=true/\dy r.id B=none/\∃lM,En lM=(ig 4 17 ⟨En ns,[]⟩ 0 r).ns/\Fj lM (B++[(r.id,r)])/\K (iA 0) lM (B++[(r.id,r)]))
theorem X6{a:Addr}{ns:List PN}{B:List (Int×bW)}{r:bW}(h:Fj ns B)(hB:B.length<=10000000):CP [] 140 [.lit (.pointer (some a)),.agg (lE r)] [.res (Cx a ns B)] (fun v H'=>OW ns B r fun u lM B'=>v=u/\H'=[.res (Cx a lM B')]):=by
 obtain ⟨nd,nN⟩:=h.root;have ZS:0<ns.length:=de nN;have nB:=cD.bd (h.wf.cell 0 _ (fh nN));have jN:iH nd<=16:=by
  have:nd.er.c=nd.c:=rfl;rw[this] at nB;unfold iH;split<;>omega
 have hlen:=h.len;have VD:=h.iN;have eR:=Cw 17 ⟨En ns,[]⟩ 0 nd.er r h.wf (fh nN) (by simp) (by show 1+iH nd<=17;omega) (by omega);have hr0:iH nd.er=iH nd:=rfl;have hI:∀pX,En pX=(ig 4 17 ⟨En ns,[]⟩ 0 r).ns->(ig 4 17 ⟨En ns,[]⟩ 0 r).fr=[]->Fj pX (B++[(r.id,r)]):=fun pX e1 e2=>by
  have heq:(⟨En pX,[]⟩:PS)=ig 4 17 ⟨En ns,[]⟩ 0 r:=by
   cases hp:ig 4 17 ⟨En ns,[]⟩ 0 r
   rw[hp] at e1 e2;simp only[] at e1 e2;rw[e1,e2]
  rw[<-heq] at eR;obtain ⟨_,m2,k1,_⟩:=eR.keeps 0 nd.er (fh nN) (by simp);obtain ⟨m3,k4,rfl⟩:=AN k1;have k5:=eR.iN;have k6:=eR.len;simp only[LQ,List.length_append,List.length_cons,List.length_nil] at k5 k6 ⊢;exact ⟨eR.wf,⟨m3,k4⟩,by simp only[List.length_append,List.length_cons,List.length_nil];omega,by simp only[List.length_append,List.length_cons,List.length_nil];omega⟩
 refine aj.DG (K':=fun v H'=>∃ρ lM B',DP ρ 0 H' (rC 4 lM lM.length B' .nil) v/\OW ns B r fun u VJ B''=>v=u/\VJ=lM/\B''=B') ?_ (fun _=>rfl) ?_
 ·refine ag aa rfl ?_;repeat' ((conv=>whnf);first|with_reducible apply af<;>intro _|refine aM.drawn aa rfl rfl ?_|with_reducible refine And.intro (aN.mk ⟨_,rfl,rfl⟩) ?_|refine WQ ?_|refine al.lY _ tE dY rfl rfl rfl rfl (fun a ha=>?_) (fun ha=>?_)|refine And.intro (aN.look _ tE dY rfl rfl rfl rfl rfl (by assumption) rfl rfl) ?_|refine al.dM (key:=r.id) (a:=r) tE dY rfl rfl rfl rfl rfl rfl rfl rfl ?_|(refine (Je 4 17 ns ns.length 0 nd (jx r.id r B) r rfl nN h.wf (by omega) (by omega) (by omega) (by omega)).use [0,1,2,3,4] rfl rfl ⟨⟨_,rfl,rfl⟩,⟨_,rfl,rfl⟩,⟨_,rfl,rfl⟩,ko,ko,tU⟩ ?_;rintro _ _ ⟨rfl,pX,e1,e2,hH⟩;rcases hH with rfl|rfl;refine ⟨[],?_⟩;rotate_left;refine ⟨[5],?_⟩)|refine ag aa rfl ?_)
  all_goals (try conv=>whnf)
  ·exact ⟨[0,1,2,3,4],ns,B,⟨rfl,rfl,⟨⟨_,rfl,rfl⟩,⟨_,rfl,rfl⟩,⟨_,rfl,rfl⟩,⟨_,rfl,rfl⟩,⟨_,rfl,rfl⟩,tU⟩,bj.dT _ [none,none,none,some 3,some 4] rfl,fun _=>rfl⟩,.inr (.inl ⟨by assumption,by rw[ha];rfl,rfl,rfl,rfl⟩)⟩
  ·rw[AZ ha];exact ⟨[0,7,2,3,4],pX,B++[(r.id,r)],⟨rfl,rfl,⟨⟨_,rfl,rfl⟩,⟨_,rfl,rfl⟩,⟨_,rfl,rfl⟩,⟨_,rfl,rfl⟩,⟨_,rfl,rfl⟩,tU⟩,bj.dT _ [none,none,none,some 3,some 4] rfl,fun _=>rfl⟩,.inr (.inr ⟨by assumption,ha,pX,e1,hI pX e1 e2,rfl,rfl,rfl⟩)⟩
  ·rw[AZ ha];exact ⟨[0,1,2,3,4],pX,B++[(r.id,r)],⟨rfl,rfl,⟨⟨_,rfl,rfl⟩,⟨_,rfl,rfl⟩,⟨_,rfl,rfl⟩,⟨_,rfl,rfl⟩,⟨_,rfl,rfl⟩,tU⟩,bj.dT _ [none,none,none,some 3,some 4] rfl,fun _=>rfl⟩,.inr (.inr ⟨by assumption,ha,pX,e1,hI pX e1 e2,rfl,rfl,rfl⟩)⟩
  ·exact ⟨[0,1,2,3,4],ns,B,⟨rfl,rfl,⟨⟨_,rfl,rfl⟩,⟨_,rfl,rfl⟩,⟨_,rfl,rfl⟩,⟨_,rfl,rfl⟩,⟨_,rfl,rfl⟩,tU⟩,bj.dT _ [none,none,none,some 3,some 4] rfl,fun _=>rfl⟩,.inl ⟨by assumption,rfl,rfl,rfl⟩⟩
  ·rename_i h;have:=dF1 h;omega
 ·rintro v H' ⟨ρ,lM,B',h1,h2⟩;refine ⟨ρ,_,h1,?_⟩;rcases h2 with ⟨h2,rfl,rfl,rfl⟩|⟨h2,h3,rfl,rfl,rfl⟩|⟨h2,h3,VJ,h4,h5,rfl,rfl,rfl⟩
  ·exact .inl ⟨h2,rfl,rfl⟩
  ·exact .inr (.inl ⟨h2,h3,rfl,rfl⟩)
  ·exact .inr (.inr ⟨h2,h3,_,h4,h5,rfl,rfl⟩)
theorem N6{c:cD}(w:World):(eL [PN.leaf c]).at_ w fun _=>False:=by
 show bD (l7 [PN.leaf c]) w _
 exact ⟨fun _=>False,fun _=>False,Cl,fun _ h=>h,fun _ h _=>h,fun b=>by simp⟩
theorem X8:CP [] 130 [iA 4] [] (fun v H'=>∃a,v=.tuple [.lit (.pointer (some a)),iA 0]/\H'=[.res (Cx a [PN.leaf ⟨0,0,0⟩] [])]):=by
 refine aj.lower (K':=fun v H'=>v=.tuple [.ptr 1 0,iA 0]/\∃G1 G2 G3,H'=[.bE [],.cells [iA 4,.slice 5 0 1 (.grown 10),.lit (.slice none 0 0),.map 0] DL,G1,G2,G3,.row (([PN.leaf ⟨0,0,0⟩]:List PN).flatMap Ae) C5,.res (eL [PN.leaf ⟨0,0,0⟩]),.res aB]) ?_ ?_
 ·refine aj.post (K:=fun v H'=>v=.tuple [.ptr 1 0,iA 0]/\∃G1 G2 G3,H'=[.bE [],.cells [iA 4,.slice 5 0 1 (.grown 10),.lit (.slice none 0 0),.map 0] DL,G1,G2,G3,.row (([PN.leaf ⟨0,0,0⟩]:List PN).flatMap Ae) C5]) ?_ ?_
  ·refine aj.wk (K:=fun v H'=>v=.tuple [.ptr 1 0,iA 0]/\∃G1 G2 G3,H'=[.map [] 0,.cells [iA 4,.slice 5 0 1 (.grown 10),.lit (.slice none 0 0),.map 0] DL,G1,G2,G3,.row (([PN.leaf ⟨0,0,0⟩]:List PN).flatMap Ae) C5]) ?_ ?_
   ·refine ag aa rfl ?_;repeat' ((conv=>whnf);first|with_reducible apply af<;>intro _|refine aM.drawn aa rfl rfl ?_|with_reducible refine And.intro (aN.mk ⟨_,rfl,rfl⟩) ?_|refine dx.nil LX rfl rfl rfl rfl rfl ?_|refine ag aa rfl ?_)
    all_goals (try conv=>whnf)
    exact ⟨rfl,_,_,_,rfl⟩
   ·rintro _ _ ⟨rfl,G1,G2,G3,rfl⟩;exact ⟨_,.map rfl rfl (by simp) (.same (.same (.same (.same (.same .nil))))),rfl,G1,G2,G3,rfl⟩
  ·rintro _ _ ⟨rfl,G1,G2,G3,rfl⟩;refine ⟨_,(eg.more (R:=eL [PN.leaf ⟨0,0,0⟩]) rfl ?_).trans (eg.more (R:=aB) rfl ?_),rfl,G1,G2,G3,rfl⟩
   ·exact bj.gO N6 _
   ·exact bj.tX _
 ·rintro _ _ ⟨rfl,G1,G2,G3,rfl⟩;refine ⟨[],[1,5,0,6,7],1,0,rC 4 [PN.leaf ⟨0,0,0⟩] 1 [] .nil,[iA 0],⟨rfl,rfl,tU,⟨⟨_,rfl,rfl⟩,⟨_,rfl,rfl⟩,⟨_,rfl,rfl⟩,⟨_,rfl,rfl⟩,⟨_,rfl,rfl⟩,tU⟩,bj.dT _ [none,none,none,some 6,some 7] rfl,fun _=>rfl⟩,rfl,fun a=>⟨a,rfl,rfl⟩⟩
theorem K8{x y l:Int}(h0:0<=l)(h1:l<=16)(hf:fits x y=true):(vL x y l).right=true:=by
 have hf:=dT1 hf;have key:∀z:Int,0<=z->z<=65535->iU z (16 - l)<p2 l:=fun z hz hz1=>by
  refine GC h0 (by omega) hz ?_;rw[show l+(16 - l)=16 by omega];show z<2 ^ (16:Int).toNat
  have:(2:Int) ^ (16:Int).toNat=65536:=by decide
  omega
 exact decide_eq_true ⟨h0,h1,pH hf.1,pH hf.2.2.1,key x hf.1 hf.2.1,key y hf.2.2.1 hf.2.2.2⟩
theorem w9{x0 y0 x1 y1:Int}(hf:fits x0 y0=true):∀(f l:Nat) (h:cD),l+f<=17->h.right=true->(vA x0 y0 x1 y1 f l h).right=true
 | 0,_,_,_,hr=>hr
 | f+1,l,h,hl,hr=>by
   simp only[vA];split
   ·exact w9 hf f (l+1) _ (by omega) (K8 (by omega) (by omega) hf)
   ·exact hr
theorem IF{x0 y0 x1 y1:Int}(h:o4 x0 y0 x1 y1=true):(FY x0 y0 x1 y1).right=true:=by
 have hd:=dT1 h;exact w9 (decide_eq_true (by omega)) 17 0 ⟨0,0,0⟩ (by omega) (by decide)
theorem DV{h:cD}(hr:h.right=true):jf h 0=⟨0,0,0⟩:=by
 have hR:=AY hr (Int.le_refl 0) (cD.bd hr).1;have:=dT1 hR;have e0:p2 0=1:=by decide
 have e1:(jf h 0).l=0:=rfl;rw[e1,e0] at this;cases hc:jf h 0
 rw[hc] at this e1;simp only[] at this e1;simp only[cD.mk.injEq];omega
abbrev Ym:TypeId:=238
def Wm(T:QT)(B:List (Int×df)):List ai:=[.cells [.lit T.ptr,.map 1] Ym,.bE (mE iK JK B),.res T.R]
def HR(a:Addr)(T:QT)(B:List (Int×df)):aC:=AtR a 0 (Wm T B)
structure GZ(T:QT):Prop where
 root:∃a k0 k1 k2 k3 many l,T=.node a ⟨0,0,0⟩ k0 k1 k2 k3 many l
 wf:Hc ⟨0,0,0⟩ T
theorem Wn:CP [] 133 [] [] (fun v H'=>∃a T,v=.lit (.pointer (some a))/\H'=[.res (HR a T [])]/\GZ T):=by
 refine aj.lower (K':=fun v H'=>v=.ptr 2 0/\∃b,H'=[.res (QT.node b ⟨0,0,0⟩ .nil .nil .nil .nil 0 []).R,.bE [],.cells [.lit (.pointer (some b)),.map 1] Ym]) ?_ ?_
 ·refine aj.wk (K:=fun v H'=>v=.ptr 2 0/\∃b,H'=[.res (QT.node b ⟨0,0,0⟩ .nil .nil .nil .nil 0 []).R,.map [] 0,.cells [.lit (.pointer (some b)),.map 1] Ym]) ?_ ?_
  ·refine ag aa rfl ?_;repeat' ((conv=>whnf);first|with_reducible apply af<;>intro _|(refine (xC (c:=⟨0,0,0⟩)).use [] rfl rfl trivial ?_;rintro _ _ ⟨b,rfl,rfl⟩;refine ⟨[0],?_⟩))
   all_goals (try conv=>whnf)
   exact ⟨rfl,_,rfl⟩
  ·rintro _ _ ⟨rfl,b,rfl⟩;exact ⟨_,.same (.map rfl rfl (by simp) (.same .nil)),rfl,b,rfl⟩
 ·rintro _ _ ⟨rfl,b,rfl⟩;refine ⟨[],[2,1,0],2,0,Wm (QT.node b ⟨0,0,0⟩ .nil .nil .nil .nil 0 []) [],[],⟨rfl,rfl,tU,⟨⟨_,rfl,rfl⟩,⟨_,rfl,rfl⟩,⟨_,rfl,rfl⟩,tU⟩,bj.dT _ [none,none,some 0] rfl,fun _=>rfl⟩,rfl,fun a=>⟨a,_,rfl,rfl,⟨b,_,_,_,_,_,_,rfl⟩,rfl,tU,tU,tU,tU⟩⟩
theorem Ho{α:Type}{id:Int}{r:α}{B:List (Int×α)}(h:dy id B=none):jx id r B=B++[(id,r)]:=by
 unfold jx;unfold dy at h;cases hf:jr id B 0 with
 | none=>rfl
 | some p=>rw[hf] at h;cases h
theorem Wo{a:Addr}{T:QT}{B:List (Int×df)}{s:df}(h:GZ T)(hr:o4 s.x0 s.y0 s.x1 s.y1=true)(hs:dy s.id B=none):CP [] 54 [.lit (.pointer (some a)),.agg (pG s)] [.res (HR a T B)] (fun v H'=>v=iA 0/\∃T',H'=[.res (HR a T' (B++[(s.id,s)]))]/\GZ T'):=by
 obtain ⟨⟨b,k0,k1,k2,k3,many,l,rfl⟩,hw⟩:=h;have hh:=IF hr;have hl:=(cD.bd hh).1;have hq:=aat hh (s:=s) (FY s.x0 s.y0 s.x1 s.y1).l.toNat 0 (Int.le_refl _) hl (by omega) b k0 k1 k2 k3 many l (by rw[DV hh];exact hw);rw[DV hh] at hq;refine aj.DG (K':=fun v H'=>v=iA 0/\∃ρ T',DP ρ 0 H' (Wm T' (B++[(s.id,s)])) (iA 0)/\GZ T') ?_ (fun _=>rfl) ?_
 ·refine ag aa rfl ?_;repeat' ((conv=>whnf);first|with_reducible apply af<;>intro _|refine aM.drawn aa rfl rfl ?_|with_reducible refine And.intro (aN.mk ⟨_,rfl,rfl⟩) ?_|(refine Wj (x0:=s.x0) (y0:=s.y0) (x1:=s.x1) (y1:=s.y1) ?_;rw[hr,if_pos rfl])|refine al.lY _ qt dY rfl rfl rfl rfl (fun a ha=>by rw[hs] at ha;cases ha) (fun ha=>?_)|refine And.intro (aN.look _ qt dY rfl rfl rfl rfl rfl (by assumption) rfl rfl) ?_|refine al.dM (key:=s.id) (a:=s) qt dY rfl rfl rfl rfl rfl rfl rfl rfl ?_|(refine hq.use [2] rfl rfl ⟨ko,tU⟩ ?_;rintro _ _ ⟨rfl,j0,j1,j2,j3,jm,jl,rfl,jw⟩;refine ⟨[],?_⟩)|refine ag aa rfl ?_)
  all_goals (try conv=>whnf)
  rw[Ho hs];exact ⟨rfl,[0,1,2],.node b ⟨0,0,0⟩ j0 j1 j2 j3 jm jl,⟨rfl,rfl,⟨⟨_,rfl,rfl⟩,⟨_,rfl,rfl⟩,⟨_,rfl,rfl⟩,tU⟩,bj.dT _ [none,none,some 2] rfl,fun _=>rfl⟩,⟨b,j0,j1,j2,j3,jm,jl,rfl⟩,jw⟩
 ·rintro v H' ⟨rfl,ρ,T',h1,h2⟩;exact ⟨ρ,_,h1,rfl,T',rfl,h2⟩
def wD:List (List UInt8):=[[114,111,108,101],[108,97,98,101,108],[114,101,103,105,111,110],[97,108,108,111,119],[99,97,112],[99,108,111,97,107],[97,110,121],[97,108,108],[116,105,101,114],[105,110],[122,111,111,109]]
def isWord(s:List UInt8):Bool:=wD.any (fun w=>decide (s=w))
def isLet(c:UInt8):Bool:=decide (97<=c.toNat/\c.toNat<=122)
def cx(c:UInt8):Bool:=decide (48<=c.toNat/\c.toNat<=57)
def dj(c:UInt8):Bool:=isLet c || cx c || decide (c.toNat=45)
def ei(c:UInt8):Bool:=decide (c.toNat=32\/c.toNat=10)
def gd(c:UInt8):Bool:=decide (c.toNat=35)
def gM(c:UInt8):Bool:=decide (c.toNat≠10)
def ju(s:List UInt8):Bool:=decide (0<s.length/\s.length<=16)&&isLet (s.headD 0)&&!isWord s&&s.all dj
structure Pt where
 i:Nat
 line:Nat
 aX:Nat
def Pt.step(p:Pt)(c:UInt8):Pt:=⟨p.i+1,if c.toNat=10 then p.line+1 else p.line,if c.toNat=10 then 1 else p.aX+1⟩
def Pt.jZ(p:Pt)(l:List UInt8):Pt:=l.foldl Pt.step p
theorem Pt.DU(p:Pt)(c:UInt8)(l:List UInt8):p.jZ (c::l)=(p.step c).jZ l:=rfl
theorem Pt.wH(p:Pt)(l m:List UInt8):p.jZ (l++m)=(p.jZ l).jZ m:=List.foldl_append
theorem Pt.u9(l:List UInt8):∀(p:Pt),(p.jZ l).i=p.i+l.length:=by
 induction l with
 | nil=>intro p;rfl
 | cons c l ih=>intro p;rw[Pt.DU,ih];simp[Pt.step];omega
def Pt.low(p:Pt):Prop:=p.line<=p.i+1/\p.aX<=p.i+1
theorem Pt.Em{p:Pt}(h:p.low)(c:UInt8):(p.step c).low:=by
 unfold Pt.low Pt.step at *;simp only;split<;>omega
theorem Pt.oV(l:List UInt8):∀{p:Pt},p.low->(p.jZ l).low:=by
 induction l with
 | nil=>intro p h;exact h
 | cons c l ih=>intro p h;rw[Pt.DU];exact ih (Pt.Em h c)
def Pt.zero:Pt:=⟨0,1,1⟩
theorem Pt.yG:Pt.zero.low:=⟨Nat.le_refl _,Nat.le_refl _⟩
def rK:Nat->List UInt8->Nat
 | 0,_=>0
 | k+1,l=>
   let n:=(l.takeWhile ei).length
   match l.drop n with
   | []=>n
   | c :: r=>if gd c then
       let m:=((c::r).takeWhile gM).length
       n+m+rK k ((c::r).drop m)
    else n
def eM(l:List UInt8):Nat:=rK (l.length+1) l
def r6(s:List UInt8):Nat:=s.foldl (fun n c=>min 65536 (10 * n+(c.toNat - 48))) 0
def lC(s:List UInt8):Nat×Bool:=if 1<s.length/\s.headD 0=48 then (0,false) else (r6 s,decide (r6 s<=65535))
structure Tk where
 kind:Nat
 text:List UInt8
 n:Nat
 line:Nat
 aX:Nat
deriving DecidableEq
def Tk.none:Tk:=⟨0,[],0,0,0⟩
def cH(l:List UInt8):Tk×Nat:=
 match l with
 | []=>(Tk.none,30)
 | c::r=>
   if isLet c then
    let w:=(c::r).takeWhile dj
    (⟨if isWord w then 2 else 1,w,0,0,0⟩,if 16<w.length then 2 else 0)
   else if cx c then
    let w:=(c::r).takeWhile cx
    if (lC w).2 then (⟨3,w,(lC w).1,0,0⟩,0) else (⟨3,w,0,0,0⟩,10)
   else if c.toNat=61\/c.toNat=43\/c.toNat=59 then (⟨4,[c],0,0,0⟩,0)
   else if c.toNat=46/\r.head?=some 46 then (⟨4,[46,46],0,0,0⟩,0)
   else (Tk.none,30)
structure kz where
 err:Nat
 line:Nat
 aX:Nat
deriving DecidableEq
def kz.ok:kz:=⟨0,0,0⟩
def jv:Nat->List UInt8->Pt->List Tk->List Tk×kz
 | 0,_,_,out=>(out,kz.ok)
 | k+1,l,p,out=>
   let n:=eM l
   let q:=p.jZ (l.take n)
   match l.drop n with
   | []=>(out,kz.ok)
   | c::r=>
     let t:=cH (c::r)
     if t.2=0 then jv k ((c::r).drop t.1.text.length) (q.jZ ((c::r).take t.1.text.length)) (out++[{ t.1 with line:=q.line,aX:=q.aX }])
     else ([],⟨t.2,q.line,q.aX⟩)
def dP(s:List UInt8):List Tk×kz:=if 512<s.length then ([],⟨2,1,1⟩) else jv (s.length+1) s Pt.zero []
def kM(s:List UInt8):Pt:=Pt.zero.jZ s
theorem eV{α:Type}(p:α->Bool):∀(l:List α),(l.takeWhile p).length<=l.length
 | []=>Nat.le_refl _
 | a::l=>by
   unfold List.takeWhile;split
   ·simp[eV p l]
   ·simp
theorem EV:∀(k:Nat) (l:List UInt8),rK k l<=l.length
 | 0,l=>Nat.zero_le _
 | k+1,l=>by
   have h1:=eV ei l;unfold rK;simp only;split
   ·exact h1
   ·rename_i c r e;split
    ·have h2:=eV gM (c::r);have h3:=EV k ((c::r).drop ((c::r).takeWhile gM).length);have h4:(c::r).length=l.length - (l.takeWhile ei).length:=by rw[<-e,List.length_drop]
     rw[List.length_drop] at h3;omega
    ·exact h1
theorem EX(l:List UInt8):eM l<=l.length:=EV _ _
theorem oY(c:UInt8)(r:List UInt8)(h:(cH (c::r)).2=0):0<(cH (c::r)).1.text.length/\(cH (c::r)).1.text=(c::r).take (cH (c::r)).1.text.length:=by
 have tw:∀(p:UInt8->Bool),p c=true->0<((c::r).takeWhile p).length/\(c::r).takeWhile p=(c::r).take ((c::r).takeWhile p).length:=fun p hp=>by
  refine ⟨by simp[List.takeWhile_cons,hp],?_⟩;have:=List.takeWhile_prefix p (l:=c::r);exact (List.prefix_iff_eq_take.1 this)
 unfold cH at h ⊢;simp only at h ⊢;by_cases h1:isLet c=true
 ·simp only[h1,if_true];exact tw dj (by simp[dj,h1])
 ·simp only[h1] at h ⊢;by_cases h2:cx c=true
  ·simp only[h2,if_true] at h ⊢;by_cases h3:(lC ((c::r).takeWhile cx)).2=true
   ·simp only[h3,if_true] at h ⊢;exact tw cx h2
   ·simp[h3] at h
  ·simp only[h2] at h ⊢;by_cases h4:c.toNat=61\/c.toNat=43\/c.toNat=59
   ·simp[h4]
   ·simp only[h4,if_false] at h ⊢;by_cases h5:c.toNat=46/\r.head?=some 46
    ·simp only[h5,and_self,if_true];obtain ⟨h6,h7⟩:=h5;cases r with
     | nil=>simp at h7
     | cons d r=>
       simp only[List.head?_cons,Option.some.injEq] at h7;subst h7;have:c=46:=UInt8.toNat_inj.1 (by rw[h6];rfl);subst this;simp
    ·simp[h5] at h
def ja(pr:UInt8->Bool):List UInt8->Bool
 | []=>false
 | c::_=>pr c
theorem LK(pr:UInt8->Bool):∀(l:List UInt8) (k:Nat),k<(l.takeWhile pr).length->ja pr (l.drop k)=true
 | [],k,h=>by simp at h
 | c::l,k,h=>by
   rw[List.takeWhile_cons] at h;by_cases hc:pr c=true
   ·rw[if_pos hc] at h;cases k with
    | zero=>exact hc
    | succ k=>exact LK pr l k (by simpa using h)
   ·rw[if_neg hc] at h;simp at h
theorem AL(pr:UInt8->Bool):∀(l:List UInt8),ja pr (l.drop (l.takeWhile pr).length)=false
 | []=>rfl
 | c::l=>by
   rw[List.takeWhile_cons];by_cases hc:pr c=true
   ·rw[if_pos hc];exact AL pr l
   ·rw[if_neg hc];simpa [ja] using hc
theorem qI(pr:UInt8->Bool)(l:List UInt8):l.takeWhile pr=l.take (l.takeWhile pr).length:=List.prefix_iff_eq_take.1 (List.takeWhile_prefix pr)
theorem yK{pr:UInt8->Bool}{l:List UInt8}(h:ja pr l=true):0<l.length:=by
 cases l with
 | nil=>cases h
 | cons c r=>simp
theorem pD(l:List UInt8)(h:ja gd l=true):0<(l.takeWhile gM).length:=by
 cases l with
 | nil=>cases h
 | cons c r=>
   have h1:c.toNat=35:=by simpa [ja,gd] using h
   simp[List.takeWhile_cons,gM,h1]
theorem yZ(k:Nat)(l:List UInt8):rK (k+1) l=if ja gd (l.drop (l.takeWhile ei).length) then (l.takeWhile ei).length+((l.drop (l.takeWhile ei).length).takeWhile gM).length+rK k ((l.drop (l.takeWhile ei).length).drop ((l.drop (l.takeWhile ei).length).takeWhile gM).length) else (l.takeWhile ei).length:=by
 conv=>lhs;unfold rK
 simp only;cases h:l.drop (l.takeWhile ei).length with
 | nil=>simp[ja]
 | cons c r=>rfl
theorem zR:∀(k j:Nat) (l:List UInt8),l.length<k->l.length<j->rK k l=rK j l
 | 0,_,l,h,_=>by omega
 | _,0,l,_,h=>by omega
 | k+1,j+1,l,h1,h2=>by
   rw[yZ,yZ];split
   ·rename_i hc;have h3:=pD _ hc;have h4:=yK hc;rw[zR k j _ (by simp only[List.length_drop] at h4 ⊢;omega) (by simp only[List.length_drop] at h4 ⊢;omega)]
   ·rfl
theorem EW(l:List UInt8):eM l=if ja gd (l.drop (l.takeWhile ei).length) then (l.takeWhile ei).length+((l.drop (l.takeWhile ei).length).takeWhile gM).length+eM ((l.drop (l.takeWhile ei).length).drop ((l.drop (l.takeWhile ei).length).takeWhile gM).length) else (l.takeWhile ei).length:=by
 rw[eM,yZ];split
 ·rename_i hc;have h3:=pD _ hc;have h4:=yK hc;rw[eM];congr 1;exact zR _ _ _ (by simp only[List.length_drop] at h4 ⊢;omega) (Nat.lt_succ_self _)
 ·rfl
theorem zS:∀(k j:Nat) (l:List UInt8) (p:Pt) (out:List Tk),l.length<k->l.length<j->jv k l p out=jv j l p out
 | 0,_,l,_,_,h,_=>by omega
 | _,0,l,_,_,_,h=>by omega
 | k+1,j+1,l,p,out,h1,h2=>by
   unfold jv;simp only;cases e:l.drop (eM l) with
   | nil=>rfl
   | cons c r=>
     simp only;split
     ·rename_i hz;obtain ⟨h3,-⟩:=oY c r hz;have h4:(c::r).length<=l.length:=by rw[<-e,List.length_drop];omega
      exact zS k j _ _ _ (by rw[List.length_drop];simp only[List.length_cons] at h4 ⊢;omega) (by rw[List.length_drop];simp only[List.length_cons] at h4 ⊢;omega)
     ·rfl
def jW(l:List UInt8)(p:Pt)(out:List Tk):List Tk×kz:=jv (l.length+1) l p out
theorem Dd(l:List UInt8)(p:Pt)(out:List Tk)(h:l.drop (eM l)=[]):jW l p out=(out,kz.ok):=by
 unfold jW jv;simp only[h]
theorem Db(l m:List UInt8)(p:Pt)(out:List Tk)(h:l.drop (eM l)=m)(h0:m≠[])(hz:(cH m).2≠0):jW l p out=([],⟨(cH m).2,(p.jZ (l.take (eM l))).line,(p.jZ (l.take (eM l))).aX⟩):=by
 unfold jW jv;simp only[h];cases m with
 | nil=>exact absurd rfl h0
 | cons c r=>simp only[if_neg hz]
theorem zT(l m:List UInt8)(p:Pt)(out:List Tk)(h:l.drop (eM l)=m)(h0:m≠[])(hz:(cH m).2=0) :
  jW l p out=jW (m.drop (cH m).1.text.length) ((p.jZ (l.take (eM l))).jZ (m.take (cH m).1.text.length)) (out++[{ (cH m).1 with line:=(p.jZ (l.take (eM l))).line,aX:=(p.jZ (l.take (eM l))).aX }]):=by
 cases m with
 | nil=>exact absurd rfl h0
 | cons c r=>
   obtain ⟨h3,-⟩:=oY c r hz;have h4:(c::r).length<=l.length:=by rw[<-h,List.length_drop];omega
   rw[jW,jv];simp only[h,if_pos hz];exact zS _ _ _ _ _ (by rw[List.length_drop];simp only[List.length_cons] at h4 ⊢;omega) (by rw[List.length_drop];simp only[List.length_cons];omega)
structure gw where
 any:Bool
 name:List UInt8
 n:Nat
 line:Nat
 aX:Nat
deriving DecidableEq
def gw.zero:gw:=⟨false,[],0,0,0⟩
structure Bx where
 x0:Nat
 y0:Nat
 x1:Nat
 y1:Nat
deriving DecidableEq
structure Dc where
 kind:Nat
 name:List UInt8
 n:Nat
 boxes:List Bx
 role:gw
 lo:Nat
 hi:Nat
 label:gw
 wh:gw
 bV:Nat
 line:Nat
 aX:Nat
def Dc.zero:Dc:=⟨0,[],0,[],gw.zero,0,0,gw.zero,gw.zero,0,0,0⟩
structure Pr where
 l:List Tk
 bad:Option (Nat×Nat)
def Pr.place(e:Nat×Nat)(p:Pr):Nat×Nat:=match p.l with
 | t::_=>(t.line,t.aX)
 | []=>e
def Pr.ba(e:Nat×Nat)(p:Pr):Pr:=match p.bad with
 | none=>⟨p.l,some (p.place e)⟩
 | some _=>p
def Pr.is(s:List UInt8)(p:Pr):Bool:=p.bad.isNone&&(match p.l with
 | t::_=>decide (t.text=s)
 | []=>false)
def Pr.kind(k:Nat)(p:Pr):Bool:=p.bad.isNone&&(match p.l with
 | t::_=>decide (t.kind=k)
 | []=>false)
def Pr.on(p:Pr):Pr:=⟨p.l.tail,p.bad⟩
def Pr.want(e:Nat×Nat)(s:List UInt8)(p:Pr):Pr:=if p.is s then p.on else p.ba e
def Pr.take(e:Nat×Nat)(k:Nat)(p:Pr):Tk×Pr:=if p.kind k then (p.l.headD Tk.none,p.on) else (Tk.none,p.ba e)
section
variable(e:Nat×Nat)
def o7:List UInt8:=[97,110,121]
def C4:List UInt8:=[97,108,108]
def cd:List UInt8:=[114,111,108,101]
def bU:List UInt8:=[108,97,98,101,108]
def cC:List UInt8:=[114,101,103,105,111,110]
def dH:List UInt8:=[97,108,108,111,119]
def jn:List UInt8:=[99,97,112]
def fi:List UInt8:=[99,108,111,97,107]
def rN:List UInt8:=[116,105,101,114]
def GJ:List UInt8:=[105,110]
def ua:List UInt8:=[122,111,111,109]
def y6:List UInt8:=[46,46]
def gN(p:Pr):List UInt8×Pr:=((p.take e 1).1.text,(p.take e 1).2)
def fW(p:Pr):Nat×Pr:=((p.take e 3).1.n,(p.take e 3).2)
def iT(p:Pr):gw×Pr:=
 let w:=p.place e
 if p.is o7 then (⟨true,[],0,w.1,w.2⟩,p.on)
 else if p.kind 1 then (⟨false,(gN e p).1,0,w.1,w.2⟩,(gN e p).2)
 else (⟨false,[],(fW e p).1,w.1,w.2⟩,(fW e p).2)
def gJ(p:Pr):gw×Pr:=
 let w:=p.place e
 if p.is C4 then (⟨true,[],0,w.1,w.2⟩,p.on)
 else (⟨false,(gN e p).1,0,w.1,w.2⟩,(gN e p).2)
def gI(p:Pr):Nat×Nat×Pr:=
 if p.is o7 then (0,7,p.on)
 else
  let a:=fW e p
  if a.2.is y6 then (a.1,fW e a.2.on)
  else (a.1,a.1,a.2)
def hZ(p:Pr):Bx×Pr:=
 let a:=fW e p
 let b:=fW e a.2
 let c:=fW e b.2
 let d:=fW e c.2
 (⟨a.1,b.1,c.1,d.1⟩,d.2)
def fT:Nat->Pr->List Bx->List Bx×Pr
 | 0,p,out=>(out,p)
 | k+1,p,out=>if p.is [43] then fT k (hZ e p.on).2 (out++[(hZ e p.on).1]) else (out,p)
def bF(p:Pr):List Bx×Pr:=fT e p.l.length (hZ e p).2 [(hZ e p).1]
def gf(d:Dc)(p:Pr):Dc×Pr:=
 let a:=gN e p
 let b:=fW e (a.2.want e [61])
 ({ d with name:=a.1,n:=b.1 },b.2)
def eT(d:Dc)(p:Pr):Dc×Pr:=
 let a:=gN e p
 let b:=bF e (a.2.want e [61])
 ({ d with name:=a.1,boxes:=b.1 },b.2)
def eS(d:Dc)(p:Pr):Dc×Pr:=
 let a:=iT e (p.want e cd)
 ({ d with role:=a.1 },a.2)
def dJ(d:Dc)(p:Pr):Dc×Pr:=
 let c:=eS e d p
 let t:=gI e (c.2.want e rN)
 let l:=iT e (t.2.2.want e bU)
 let r:=gJ e (l.2.want e GJ)
 let z:=fW e (r.2.want e ua)
 ({ c.1 with lo:=t.1,hi:=t.2.1,label:=l.1,wh:=r.1,bV:=z.1 },z.2)
def br(p:Pr):Dc×Pr:=
 let w:=p.place e
 let d:Dc:={ Dc.zero with line:=w.1,aX:=w.2 }
 let x:=if p.is cd then gf e { d with kind:=1 } p.on
  else if p.is bU then gf e { d with kind:=2 } p.on
  else if p.is cC then eT e { d with kind:=3 } p.on
  else if p.is dH then dJ e { d with kind:=4 } p.on
  else if p.is jn then dJ e { d with kind:=5 } p.on
  else if p.is fi then eS e { d with kind:=6 } p.on
  else dJ e d (p.ba e)
 (x.1,x.2.want e [59])
def iF:Nat->Pr->List Dc->List Dc×Pr
 | 0,p,out=>(out,p)
 | k+1,p,out=>if p.l=[]\/p.bad≠none then (out,p) else iF k (br e p).2 (out++[(br e p).1])
end
def parse(s:List UInt8):List Dc×kz:=
 if (dP s).2.err≠0 then ([],(dP s).2)
 else
  let e:=((kM s).line,(kM s).aX)
  let r:=iF e ((dP s).1.length+1) ⟨(dP s).1,none⟩ []
  match r.2.bad with
  | none=>(r.1,kz.ok)
  | some b=>([],⟨31,b.1,b.2⟩)
def ij(w:gw):Bool:=if w.any then decide (w.name=[]/\w.n=0) else if w.name≠[] then decide (w.n=0)&&ju w.name else decide (w.n<=65535)
def Dk(w:gw):Bool:=ij w&&(w.any || decide (w.name≠[]))
def ku(w:gw):Bool:=!w.any&&decide (w.name=[]/\w.n=0)
def vT(d:Dc):Bool:=ij d.role&&decide (d.lo<=65535/\d.hi<=65535/\d.bV<=65535)&&ij d.label&&Dk d.wh
def oo(d:Dc):Bool:=decide (d.lo=0/\d.hi=0/\d.bV=0)&&ku d.label&&ku d.wh
def oj(d:Dc):Bool:=decide (d.name=[]/\d.n=0/\d.boxes=[])
def pv(l:List Bx):Bool:=l.all (fun b=>decide (b.x0<=65535/\b.y0<=65535/\b.x1<=65535/\b.y1<=65535))&&decide (l≠[])
def fV(d:Dc):Bool:=
 if d.kind=1\/d.kind=2 then ju d.name&&decide (d.n<=65535)&&decide (d.boxes=[])&&ku d.role&&oo d
 else if d.kind=3 then ju d.name&&decide (d.n=0)&&pv d.boxes&&ku d.role&&oo d
 else if d.kind=4\/d.kind=5 then oj d&&vT d
 else if d.kind=6 then oj d&&ij d.role&&oo d
 else false
structure Rl where
 kind:Nat
 kJ:Nat
 lo:Nat
 hi:Nat
 labels:Nat
 boxes:List Bx
 bV:Nat
def ly(b:Bx):Bool:=decide (b.x0<=65535/\b.y0<=65535/\b.x1<=65535/\b.y1<=65535/\b.x0<=b.x1/\b.y0<=b.y1)
structure Ck where
 kJ:List (List UInt8×Nat)
 labels:List (List UInt8×Nat)
 regions:List (List UInt8×List Bx)
 rules:List Rl
 boxes:Nat
 fault:kz
def Ck.zero:Ck:=⟨[],[],[],[],0,kz.ok⟩
def Ck.ba(e line aX:Nat)(c:Ck):Ck:=if c.fault.err=0 then { c with fault:=⟨e,line,aX⟩ } else c
def assoc{β:Type}(l:List (List UInt8×β))(k:List UInt8):Option β:=(l.find? (fun x=>decide (x.1=k))).map (·.2)
def Ck.names(k:Nat)(c:Ck):List (List UInt8×Nat):=if k=1 then c.kJ else c.labels
def fk(d:Dc)(c:Ck):Ck:=
 if (assoc (c.names d.kind) d.name).isSome then c.ba 20 d.line d.aX
 else if 7<d.n then c.ba 33 d.line d.aX
 else if d.kind=1 then { c with kJ:=c.kJ++[(d.name,d.n)] } else { c with labels:=c.labels++[(d.name,d.n)] }
def gQ(d:Dc)(c:Ck):Ck:=
 if (assoc c.regions d.name).isSome then c.ba 20 d.line d.aX
 else if !d.boxes.all ly then c.ba 33 d.line d.aX
 else { c with regions:=c.regions++[(d.name,d.boxes)] }
def di(kind:Nat)(w:gw)(c:Ck):Nat×Ck:=
 if w.any then (255,c)
 else
  let n:=if w.name≠[] then (assoc (c.names kind) w.name).getD 0 else w.n
  let c:=if w.name≠[]/\assoc (c.names kind) w.name=none then c.ba 21 w.line w.aX else c
  if 7<n then (0,c.ba 33 w.line w.aX) else (2 ^ n,c)
def cZ(w:gw)(c:Ck):List Bx×Ck:=
 if w.any then ([⟨0,0,65535,65535⟩],c)
 else match assoc c.regions w.name with
  | some l=>(l,c)
  | none=>([],c.ba 21 w.line w.aX)
def il(d:Dc)(c:Ck):Ck:=
 let c:=if c.rules.length=32 then c.ba 2 d.line d.aX else c
 let s:=di 1 d.role c
 if d.kind=6 then { s.2 with rules:=s.2.rules++[⟨6,s.1,0,0,0,[],0⟩] }
 else
  let c:Ck:=if d.hi<d.lo\/7<d.hi then s.2.ba 33 d.line d.aX else s.2
  let t:=di 2 d.label c
  let b:=cZ d.wh t.2
  let c:Ck:={ b.2 with boxes:=b.2.boxes+b.1.length }
  let c:Ck:=if 32<c.boxes then c.ba 2 d.line d.aX else c
  let c:Ck:=if 16<d.bV then c.ba 33 d.line d.aX else c
  { c with rules:=c.rules++[⟨d.kind,s.1,d.lo,d.hi,t.1,b.1,d.bV⟩] }
def ep(d:Dc)(c:Ck):Ck:=if d.kind=1\/d.kind=2 then fk d c else if d.kind=3 then gQ d c else il d c
def kE:List Dc->Ck->Ck
 | [],c=>c
 | d::r,c=>if (ep d c).fault.err=0 then kE r (ep d c) else ep d c
def check(l:List Dc):List Rl×kz:=
 if !l.all fV then ([],⟨1,0,0⟩)
 else if (kE l Ck.zero).fault.err=0 then ((kE l Ck.zero).rules,kz.ok) else ([],(kE l Ck.zero).fault)
def hU(s:List UInt8):List Rl×kz:=if (parse s).2.err=0 then check (parse s).1 else ([],(parse s).2)
end Go.Proofs.YtmbdghclhpboaaaGreat
namespace Go.Proofs.YtmbdghclhpboaaaGreat.Ev
open Go.RowKit
structure cX(E:Env)(P:Program)(t:aE)(H:List ai)(op:Op)(K:AV->Prop):Prop where
 out:∃v,(∀(F:dN) (γ:aT) (w:World) (a:Act),aU F γ (hp H) w->Rs F γ H w->pM γ t a.eval->∀o:Oper,o.op=op->∃x,(execOp a.eval o).run P w=.ok (.value x) w/\aw γ v x)/\K v
section
variable{P:Program}{E:Env}(hE:cL P E){t:aE}{H:List ai}{K:AV->Prop}
include hE
theorem cX.pure{op:Op}{v:AV}(h:bK E t (hp H) op=some (.pure v))(k:K v):cX E P t H op K:=⟨v,fun F γ w a hR _ bJ o ho=>by
 subst ho;exact pJ hE hR.toRel bJ o h (.inl rfl),k⟩
theorem cX.read{op:Op}{v:AV}(h:bK E t (hp H) op=some (.read v))(k:K v):cX E P t H op K:=⟨v,fun F γ w a hR _ bJ o ho=>by
 subst ho;exact pJ hE hR.toRel bJ o h (.inr rfl),k⟩
theorem cX.bC{ty elem:TypeId}{r er:dd}{x i:Operand}{a:Addr}{n k:Nat}{c:Nat}(hr:E.ty ty=some r)(hu:r.bp=.slice elem)(he:E.ty elem=some er)(hx:aL t x=some (.lit (.slice (some a) n c)))(hi:aL t i=some (.lit (.int .i64 (k:Int))))(hk:k<n)(h:K (.lit (.pointer (some (a.add (k * er.info.size)))))):cX E P t H (.indexAddr ty x i) K:=
 ⟨_,fun F γ w ac hR _ bJ o ho=>by
  have h1:=bJ x _ hx;have h2:=bJ i _ hi;rw[au] at h1 h2;refine ⟨.pointer (some (a.add (k * er.info.size))),?_,aS γ _⟩;obtain ⟨dst,op,type,pos,after,guard⟩:=o;simp only[] at ho;subst ho;simp only[execOp];refine dE ?_;rw[h1,h2];unfold Instr.indexAt;have iX:(0<=(k:Int)/\(k:Int)<(n:Int)):=⟨by omega,by omega⟩;simp only[asIntOf,Instr.sureAddr,Sem.run_bind,bn hE hr w,Result.andThen_ok,hu,Sem.run_pure,iX,and_self,if_true,bY hE he w,Int.toNat_natCast],h⟩
omit hE in
theorem cX.aR{ty:TypeId}{ad:Operand}{a:Addr}{i:Nat}{R:aC}{x:Value}{v:AV}(hi:H[i]?=some (.res R))(hl:∀w S,R.at_ w S->(loadVar ty a).run P w=.ok x w)(hx:aL t ad=some (.lit (.pointer (some a))))(hv:v.flat=some x)(h:K v):cX E P t H (.load ty ad) K:=
 ⟨v,fun F γ w ac hR cK bJ o ho=>by
  have h1:=bJ ad _ hx;rw[au] at h1;obtain ⟨T,hT,_⟩:=cK.out;have yx:(cz H)[i]?=some R:=by unfold cz;rw[List.getElem?_map,hi];rfl
  obtain ⟨S1,S2,b1,_,_,_⟩:=db hT yx;refine ⟨x,?_,jF v x hv⟩;obtain ⟨dst,op,type,pos,after,guard⟩:=o;simp only[] at ho;subst ho;simp only[execOp];refine dE ?_;rw[h1];simp only[Instr.loadAt,Instr.sureAddr,Sem.run_bind,Sem.run_pure,Result.andThen_ok,hl w S1 b1],h⟩
end
def EB(E:Env)(P:Program)(nt:Nat)(ops:List Oper)(H:List ai):List Oper->aE->(aE->Prop)->Prop
 | [],t,K=>K t
 | o::rest,t,K=>match dD ops t o with
   | none=>False
   | some false=>r7 nt o.dst t aQ fun t'=>EB E P nt ops H rest t' K
   | some true=>cX E P t H o.op (fun v=>fv v fun v=>r7 nt o.dst t v fun t'=>EB E P nt ops H rest t' K)
section
variable{P:Program}{E:Env}(hE:cL P E)
include hE
omit hE in
theorem CC{nt:Nat}(hn:nt<=aY){ops:Array Oper}{H:List ai}{F:dN}{γ:aT}{w:World}(hR:Rl F γ H w){K:aE->Prop}{Q:Act->Prop}(hK:∀t a,K t->cW γ nt t a->Q a) :
  ∀(l:List Oper) (t:aE) (a:Act),EB E P nt ops.toList H l t K->cW γ nt t a->wpStill P ops w Q l a
 | [],t,a,h,hT=>hK t a h hT
 | o::rest,t,a,h,hT=>by
   simp only[EB] at h;simp only[wpStill];cases hw:dD ops.toList t o with
   | none=>rw[hw] at h;exact h.elim
   | some b=>
     rw[hw] at h;have kI:=pc (a:=a) (γ:=γ) (n:=nt) hw fun d u _ hu=>hT.get d u hu;cases b with
     | false=>
       rw[kI];obtain ⟨t1,oh,hk⟩:=l8 h;exact CC hn hR hK rest t1 _ hk (oq hT oh hn (aS γ _))
     | true=>
       rw[kI];obtain ⟨v,hv,hk⟩:=h.out;obtain ⟨x,h1,h2⟩:=hv F γ w a hR.rel hR.rs hT.aL o rfl;obtain ⟨t1,oh,hk⟩:=l8 (sU hk);simp only[if_true,Oper.still,h1,Oper.stillUpon_value];exact CC hn hR hK rest t1 _ hk (oq hT oh hn h2)
theorem JU{n:Nat}(hn:n<=aY){ops:Array Oper}{Q:Exit->Act->World->Prop}{L:aE->List ai->Prop}:∀(l:List Oper) (i:Nat) (t:aE) (H:List ai) (γ:aT) (F:dN) (w:World) (a:Act),
  wpOps E P n ops.toList l t H L->ops.toList.drop i=l->Rl F γ H w->cW γ n t a ->
  (∀t' H' ay a' w',L t' H'->Rl F ay H' w'->cW ay n t' a'->Ext γ ay->Q .normal a' w')->wpList P ops Q l a w
 | [],i,t,H,γ,F,w,a,h,hd,hR,hT,hQ=>hQ t H γ a w h hR hT (.refl γ)
 | o::rest,i,t,H,γ,F,w,a,h,hd,hR,hT,hQ=>by
   have hi:ops[i]?=some o:=by
    have h1:ops.toList[i]?=some o:=by
     have:(ops.toList.drop i)[0]?=some o:=by rw[hd];rfl
     rw[List.getElem?_drop] at this;simpa using this
    simpa using h1
   have ra:ops.toList.drop (i+1)=rest:=by
    have:=congrArg List.tail hd;simpa [List.tail_drop] using this
   simp only[wpOps] at h;have hw:wpOp P ops Q i (wpList P ops Q rest) a w:=E1 hE h hi hR hT fun v H1 fD x w1 hk fJ hx fM=>by
    obtain ⟨t1,hp,hk⟩:=l8 (sU hk);exact JU hn rest (i+1) t1 H1 fD F w1 _ hk ra fJ (oq (hT.mono fM) hp hn hx) fun t' H' ay a' w' h1 h2 h3 h4=>hQ t' H' ay a' w' h1 h2 h3 (fM.trans h4)
   unfold wpOp at hw;simp only[hi] at hw;exact hw
theorem aM.tail{id nt k:Nat}{l:List Oper}{t:aE}{H:List ai}{Q:fR->aE->List ai->Prop}(n:Nat)(hn:Nat.ble nt aY=true)(hB:Region.lexTailB .any l.toArray n=true)
  (h:EB E P nt l H (l.take n) t (fun t'=>wpOps E P nt l (l.drop n) t' H (fun t H=>Q .normal t H))):aM P nt k (.region id l.toArray true) t H Q:=⟨fun F γ w a R hR hT hQ=>by
 have hn:=nB1 hn;refine wp_region_still_tail n hE.wide hB ?_;obtain ⟨T,mJ,mK⟩:=hR.rs.out;have fJ:Rl F γ H { w with drawn:=w.drawn+1 }:=⟨hR.rel.heap rfl,hR.pl,⟨T,iV mJ fun b _=>rfl,mK⟩⟩;refine CC hn (ops:=l.toArray) fJ (K:=fun t'=>wpOps E P nt l (l.drop n) t' H (fun t H=>Q .normal t H)) (fun t' a' hk gz=>?_) (l.take n) t a h hT;exact JU hE hn (ops:=l.toArray) (l.drop n) n t' H γ F _ a' hk (by simp) fJ gz fun t2 H2 hY a2 w2 h1 h2 h3 h4=>hQ .normal t2 H2 hY a2 w2 h1 h2 h3 (.AB h4 k)⟩
end
section
variable{P:Program}{E:Env}(hE:cL P E){S:List Nat}{t:aE}{H:List ai}{K:AV->List ai->Prop}
include hE
theorem al.VP{ty elem:TypeId}{r er:dd}{x lo:Operand}{A:Option Addr}{n c j:Nat}{q:IntKind}(hr:E.ty ty=some r)(hu:r.bp=.slice elem)(he:E.ty elem=some er)(hx:aL t x=some (.lit (.slice A n c)))(hl:aL t lo=some (.lit (.int q (j:Int))))(hj:j<=n)(h:K (.lit (.slice (oN A c j er.info.size) (n - j) (c - j))) H):al E P true S t H (.slice ty x (some lo) none none) K:=
 ⟨.inr ⟨rfl,⟨fun F γ w ρ hR cE cK bJ o ho=>by
  have h1:=bJ x _ (by simp[Op.operands]) hx;have h2:=bJ lo _ (by simp[Op.operands]) hl;rw[au] at h1 h2;refine ⟨_,H,γ,.value (.slice (oN A c j er.info.size) (n - j) (c - j)),w,?_,.inl ⟨_,rfl,aS γ _⟩,h,hR,.refl γ _,cE,cK⟩;obtain ⟨dst,op,type,pos,after,guard⟩:=o;simp only[] at ho;subst ho;simp only[execOp];refine dE ?_;simp only[Option.map_some,Option.map_none,h1,h2];have pW:(underlying ty).run P w=.ok (.slice elem) w:=by rw[bn hE hr w,hu]
  unfold Instr.sliceAt;simp only[Sem.run_bind,pW,Result.andThen_ok];exact u5 (by rw[hE.bp ty r hr,hu]) (fun w=>bY hE he w) w A n c j q hj⟩⟩⟩
theorem al.aaz{ty elem:TypeId}{r er:dd}{x hi mx:Operand}{b off n c j:Nat}{q q':IntKind}(hr:E.ty ty=some r)(hu:r.bp=.slice elem)(he:E.ty elem=some er)(hx:aL t x=some (.lit (.slice (some ⟨b,off,none⟩) n c)))(hh:aL t hi=some (.lit (.int q (j:Int))))(hm:aL t mx=some (.lit (.int q' (j:Int))))(hj:j<=c)(h:K (.lit (.slice (some ⟨b,off,none⟩) j j)) H):al E P true S t H (.slice ty x none (some hi) (some mx)) K:=
 ⟨.inr ⟨rfl,⟨fun F γ w ρ hR cE cK bJ o ho=>by
  have h1:=bJ x _ (by simp[Op.operands]) hx;have h2:=bJ hi _ (by simp[Op.operands]) hh;have h3:=bJ mx _ (by simp[Op.operands]) hm;rw[au] at h1 h2 h3;refine ⟨_,H,γ,.value (.slice (some ⟨b,off,none⟩) j j),w,?_,.inl ⟨_,rfl,aS γ _⟩,h,hR,.refl γ _,cE,cK⟩;obtain ⟨dst,op,type,pos,after,guard⟩:=o;simp only[] at ho;subst ho;simp only[execOp];refine dE ?_;simp only[Option.map_some,Option.map_none,h1,h2,h3];have hb:(0:Int)<=(j:Int)/\(j:Int)<=(c:Int):=⟨by omega,by omega⟩;have lJ:(0:Int)<=(j:Int)/\(j:Int)<=(j:Int):=⟨by omega,by omega⟩;have jD:(sizeOf elem).run P w=.ok er.info.size w:=bY hE he w;have pW:(underlying ty).run P w=.ok (.slice elem) w:=by rw[bn hE hr w,hu]
  unfold Instr.sliceAt;simp only[Sem.run_bind,pW,Result.andThen_ok];unfold Instr.slice;simp only[Instr.sliceBounds,Instr.sliceBound,asIntOf,Sem.run_bind,pW,Result.andThen_ok,Sem.run_pure,if_true,hb,lJ,and_self,Int.toNat_natCast,jD,Nat.zero_mul,Option.map_some,Nat.sub_zero,Addr.add_mid,Nat.add_zero,ite_self]⟩⟩⟩
end
