/- Part of the proof: Pt2 Cif2 LexP PolP RulP. Conditions: as each states. -/
import Derived.Test.YtmbdghclhpboaaaGreatPb25
set_option linter.all false
set_option maxRecDepth 100000
namespace Go.Proofs.YtmbdghclhpboaaaGreat
open Ev
theorem gfits{S:List Nat}{H:List AObj}{K:AV→List AObj→Prop}{x y:Int}(k:K (bA (fits x y)) H):CP S 213 [.agg [iA x,iA y]] H K:=by
 refine CallS.pure ?_ (fun _=>rfl) (fun _=>rfl) k
 refine fn_ok ev_ok rfl ?_
 repeat' ((conv=>whnf);first|with_reducible apply brP_of<;>intro _|refine fn_ok ev_ok rfl ?_)
 all_goals
  refine bA_eq ?_
  unfold fits
  simp_all
 all_goals omega
def ptR(a:Addr)(ns:List PN)(B:List (Int×Rcd)):Res:=AtR a 0 (ptH 4 ns ns.length B .nil)
structure PtI(ns:List PN)(B:List (Int×Rcd)):Prop where
 wf:PWf 4 noX ⟨En ns,[]⟩
 root:∃nd,ns[0]?=some nd
 len:ns.length≤1+64 * B.length
 tot:tot (En ns)≤B.length
theorem pt_out{ns:List PN}{B:List (Int×Rcd)}{G:List AObj}{v:AV}(hv:∀g,v.ren g=v):InOk [0,1,2,3,4] 0 (ptH 4 ns ns.length B .nil++G) (ptH 4 ns ns.length B .nil) v:=
 ⟨rfl,rfl,⟨⟨_,rfl,rfl⟩,⟨_,rfl,rfl⟩,⟨_,rfl,rfl⟩,⟨_,rfl,rfl⟩,⟨_,rfl,rfl⟩,tU⟩,Ent.cons _ (Ent.cons _ (Ent.cons _ (Ent.cons _ (Ent.cons _ (Ent.all _))))),hv⟩
theorem ptfind0{ns:List PN}{B:List (Int×Rcd)}{id:Int}(hn:0<ns.length):CP [] 229 [.ptr 0 0,iA id] (ptH 4 ns ns.length B .nil) (fun v H'=>v=.tuple [.agg (rcdA ((aget id B).getD ⟨0,0,0,0⟩)),bA (aget id B).isSome]∧∃G,H'=ptH 4 ns ns.length B .nil++G):=by
 refine fn_ok ev_ok rfl ?_
 repeat' ((conv=>whnf);first|with_reducible apply brP_of<;>intro _|refine OpP.look2 _ mapT_rc keyE_int rfl rfl rfl rfl (fun a ha=>?_) (fun ha=>?_)|refine And.intro (AgP.look _ mapT_rc keyE_int rfl rfl rfl rfl rfl (by assumption) rfl rfl) ?_|refine fn_ok ev_ok rfl ?_)
 all_goals (try conv=>whnf)
 ·rw[ha];exact ⟨rfl,_,rfl⟩
 ·rw[ha];exact ⟨rfl,_,rfl⟩
 ·rename_i h
  have:=of_decide_eq_false h
  omega
theorem ptfindR{a:Addr}{ns:List PN}{B:List (Int×Rcd)}{id:Int}(hn:0<ns.length):CP [] 229 [.lit (.pointer (some a)),iA id] [.res (ptR a ns B)] (fun v H'=>v=.tuple [.agg (rcdA ((aget id B).getD ⟨0,0,0,0⟩)),bA (aget id B).isSome]∧H'=[.res (ptR a ns B)]):=
 CallS.inR (ptfind0 hn) (fun _=>rfl) fun v H' h=>by
  obtain ⟨rfl,G,rfl⟩:=h
  exact ⟨[0,1,2,3,4],ptH 4 ns ns.length B .nil,pt_out fun _=>rfl,rfl,rfl⟩
theorem aput_none{id:Int}{r:Rcd}{B:List (Int×Rcd)}(h:aget id B=none):aput id r B=B++[(id,r)]:=by
 unfold aput
 unfold aget at h
 cases hf:afind id B 0 with
 | none=>rfl
 | some p=>rw[hf] at h;cases h
def PtIns(ns:List PN)(B:List (Int×Rcd))(r:Rcd)(K:AV→List PN→List (Int×Rcd)→Prop):Prop:=
 (fits r.x r.y=false∧K (iA 1) ns B)∨(fits r.x r.y=true∧(aget r.id B).isSome=true∧K (iA 20) ns B) ∨
 (fits r.x r.y=true∧aget r.id B=none∧∃ns',En ns'=(putM 4 17 ⟨En ns,[]⟩ 0 r).ns∧PtI ns' (B++[(r.id,r)])∧K (iA 0) ns' (B++[(r.id,r)]))
theorem ptins{a:Addr}{ns:List PN}{B:List (Int×Rcd)}{r:Rcd}(h:PtI ns B)(hB:B.length≤10000000):CP [] 140 [.lit (.pointer (some a)),.agg (rcdA r)] [.res (ptR a ns B)] (fun v H'=>PtIns ns B r fun u ns' B'=>v=u∧H'=[.res (ptR a ns' B')]):=by
 obtain ⟨nd,hnd⟩:=h.root
 have hn0:0<ns.length:=get_lt hnd
 have hcb:=Cel.bd (h.wf.cell 0 _ (En_get hnd))
 have hroom:roomI nd≤16:=by
  have:nd.er.c=nd.c:=rfl
  rw[this] at hcb
  unfold roomI
  split<;>omega
 have hlen:=h.len
 have htot:=h.tot
 have hok:=pput_ok 17 ⟨En ns,[]⟩ 0 nd.er r h.wf (En_get hnd) (by simp) (by show 1+roomI nd≤17;omega) (by omega)
 have hr0:roomI nd.er=roomI nd:=rfl
 have hI:∀ns2,En ns2=(putM 4 17 ⟨En ns,[]⟩ 0 r).ns→(putM 4 17 ⟨En ns,[]⟩ 0 r).fr=[]→PtI ns2 (B++[(r.id,r)]):=fun ns2 e1 e2=>by
  have heq:(⟨En ns2,[]⟩:PS)=putM 4 17 ⟨En ns,[]⟩ 0 r:=by
   cases hp:putM 4 17 ⟨En ns,[]⟩ 0 r
   rw[hp] at e1 e2
   simp only[] at e1 e2
   rw[e1,e2]
  rw[←heq] at hok
  obtain ⟨_,m2,k1,_⟩:=hok.keeps 0 nd.er (En_get hnd) (by simp)
  obtain ⟨m3,k4,rfl⟩:=En_some k1
  have k5:=hok.tot
  have k6:=hok.len
  simp only[En_len,List.length_append,List.length_cons,List.length_nil] at k5 k6 ⊢
  exact ⟨hok.wf,⟨m3,k4⟩,by simp only[List.length_append,List.length_cons,List.length_nil];omega,by simp only[List.length_append,List.length_cons,List.length_nil];omega⟩
 refine CallS.inR (K':=fun v H'=>∃ρ ns' B',InOk ρ 0 H' (ptH 4 ns' ns'.length B' .nil) v∧PtIns ns B r fun u ns'' B''=>v=u∧ns''=ns'∧B''=B') ?_ (fun _=>rfl) ?_
 ·refine fn_ok ev_ok rfl ?_
  repeat' ((conv=>whnf);first|with_reducible apply brP_of<;>intro _|refine WpS.drawn ev_ok rfl rfl ?_|with_reducible refine And.intro (AgP.mk ⟨_,rfl,rfl⟩) ?_|refine gfits ?_|refine OpP.look2 _ mapT_rc keyE_int rfl rfl rfl rfl (fun a ha=>?_) (fun ha=>?_)|refine And.intro (AgP.look _ mapT_rc keyE_int rfl rfl rfl rfl rfl (by assumption) rfl rfl) ?_|refine OpP.mput (key:=r.id) (a:=r) mapT_rc keyE_int rfl rfl rfl rfl rfl rfl rfl rfl ?_|(refine (put_all 4 17 ns ns.length 0 nd (aput r.id r B) r rfl hnd h.wf (by omega) (by omega) (by omega) (by omega)).use [0,1,2,3,4] rfl rfl ⟨⟨_,rfl,rfl⟩,⟨_,rfl,rfl⟩,⟨_,rfl,rfl⟩,⟨_,rfl,kp⟩,⟨_,rfl,kp⟩,tU⟩ ?_;rintro _ _ ⟨rfl,ns2,e1,e2,hH⟩;rcases hH with rfl|rfl;refine ⟨[],?_⟩;rotate_left;refine ⟨[5],?_⟩)|refine fn_ok ev_ok rfl ?_)
  all_goals (try conv=>whnf)
  ·exact ⟨[0,1,2,3,4],ns,B,⟨rfl,rfl,⟨⟨_,rfl,rfl⟩,⟨_,rfl,rfl⟩,⟨_,rfl,rfl⟩,⟨_,rfl,rfl⟩,⟨_,rfl,rfl⟩,tU⟩,Ent.picks _ [none,none,none,some 3,some 4] rfl,fun _=>rfl⟩,.inr (.inl ⟨by assumption,by rw[ha];rfl,rfl,rfl,rfl⟩)⟩
  ·rw[aput_none ha]
   exact ⟨[0,7,2,3,4],ns2,B++[(r.id,r)],⟨rfl,rfl,⟨⟨_,rfl,rfl⟩,⟨_,rfl,rfl⟩,⟨_,rfl,rfl⟩,⟨_,rfl,rfl⟩,⟨_,rfl,rfl⟩,tU⟩,Ent.picks _ [none,none,none,some 3,some 4] rfl,fun _=>rfl⟩,.inr (.inr ⟨by assumption,ha,ns2,e1,hI ns2 e1 e2,rfl,rfl,rfl⟩)⟩
  ·rw[aput_none ha]
   exact ⟨[0,1,2,3,4],ns2,B++[(r.id,r)],⟨rfl,rfl,⟨⟨_,rfl,rfl⟩,⟨_,rfl,rfl⟩,⟨_,rfl,rfl⟩,⟨_,rfl,rfl⟩,⟨_,rfl,rfl⟩,tU⟩,Ent.picks _ [none,none,none,some 3,some 4] rfl,fun _=>rfl⟩,.inr (.inr ⟨by assumption,ha,ns2,e1,hI ns2 e1 e2,rfl,rfl,rfl⟩)⟩
  ·exact ⟨[0,1,2,3,4],ns,B,⟨rfl,rfl,⟨⟨_,rfl,rfl⟩,⟨_,rfl,rfl⟩,⟨_,rfl,rfl⟩,⟨_,rfl,rfl⟩,⟨_,rfl,rfl⟩,tU⟩,Ent.picks _ [none,none,none,some 3,some 4] rfl,fun _=>rfl⟩,.inl ⟨by assumption,rfl,rfl,rfl⟩⟩
  ·rename_i h
   have:=of_decide_eq_false h
   omega
 ·rintro v H' ⟨ρ,ns',B',h1,h2⟩
  refine ⟨ρ,_,h1,?_⟩
  rcases h2 with ⟨h2,rfl,rfl,rfl⟩|⟨h2,h3,rfl,rfl,rfl⟩|⟨h2,h3,ns'',h4,h5,rfl,rfl,rfl⟩
  ·exact .inl ⟨h2,rfl,rfl⟩
  ·exact .inr (.inl ⟨h2,h3,rfl,rfl⟩)
  ·exact .inr (.inr ⟨h2,h3,_,h4,h5,rfl,rfl⟩)
theorem pool_one{c:Cel}(w:World):(poolR [PN.leaf c]).at_ w fun _=>False:=by
 show stars (poolL [PN.leaf c]) w _
 exact ⟨fun _=>False,fun _=>False,own_nil,fun _ h=>h,fun _ h _=>h,fun b=>by simp⟩
theorem ptnew:CP [] 130 [iA 4] [] (fun v H'=>∃a,v=.tuple [.lit (.pointer (some a)),iA 0]∧H'=[.res (ptR a [PN.leaf ⟨0,0,0⟩] [])]):=by
 refine CallS.lower (K':=fun v H'=>v=.tuple [.ptr 1 0,iA 0]∧∃G1 G2 G3,H'=[.mrow [],.cells [iA 4,.slice 5 0 1 (.grown 10),.lit (.slice none 0 0),.map 0] tPT,G1,G2,G3,.row (([PN.leaf ⟨0,0,0⟩]:List PN).flatMap pnC) tPN,.res (poolR [PN.leaf ⟨0,0,0⟩]),.res resNil]) ?_ ?_
 ·refine CallS.post (K:=fun v H'=>v=.tuple [.ptr 1 0,iA 0]∧∃G1 G2 G3,H'=[.mrow [],.cells [iA 4,.slice 5 0 1 (.grown 10),.lit (.slice none 0 0),.map 0] tPT,G1,G2,G3,.row (([PN.leaf ⟨0,0,0⟩]:List PN).flatMap pnC) tPN]) ?_ ?_
  ·refine CallS.wk (K:=fun v H'=>v=.tuple [.ptr 1 0,iA 0]∧∃G1 G2 G3,H'=[.map [] 0,.cells [iA 4,.slice 5 0 1 (.grown 10),.lit (.slice none 0 0),.map 0] tPT,G1,G2,G3,.row (([PN.leaf ⟨0,0,0⟩]:List PN).flatMap pnC) tPN]) ?_ ?_
   ·refine fn_ok ev_ok rfl ?_
    repeat' ((conv=>whnf);first|with_reducible apply brP_of<;>intro _|refine WpS.drawn ev_ok rfl rfl ?_|with_reducible refine And.intro (AgP.mk ⟨_,rfl,rfl⟩) ?_|refine AppP.nil app_pn rfl rfl rfl rfl rfl ?_|refine fn_ok ev_ok rfl ?_)
    all_goals (try conv=>whnf)
    exact ⟨rfl,_,_,_,rfl⟩
   ·rintro _ _ ⟨rfl,G1,G2,G3,rfl⟩
    exact ⟨_,.map rfl rfl (by simp) (.same (.same (.same (.same (.same .nil))))),rfl,G1,G2,G3,rfl⟩
  ·rintro _ _ ⟨rfl,G1,G2,G3,rfl⟩
   refine ⟨_,(Pre.more (R:=poolR [PN.leaf ⟨0,0,0⟩]) rfl ?_).trans (Pre.more (R:=resNil) rfl ?_),rfl,G1,G2,G3,rfl⟩
   ·exact Ent.snocE pool_one _
   ·exact Ent.snocNil _
 ·rintro _ _ ⟨rfl,G1,G2,G3,rfl⟩
  refine ⟨[],[1,5,0,6,7],1,0,ptH 4 [PN.leaf ⟨0,0,0⟩] 1 [] .nil,[iA 0],⟨rfl,rfl,tU,⟨⟨_,rfl,rfl⟩,⟨_,rfl,rfl⟩,⟨_,rfl,rfl⟩,⟨_,rfl,rfl⟩,⟨_,rfl,rfl⟩,tU⟩,Ent.picks _ [none,none,none,some 6,some 7] rfl,fun _=>rfl⟩,rfl,fun a=>⟨a,rfl,rfl⟩⟩
theorem ofC_right{x y l:Int}(h0:0≤l)(h1:l≤16)(hf:fits x y=true):(ofC x y l).right=true:=by
 have hf:=of_decide_eq_true hf
 have key:∀z:Int,0≤z→z≤65535→shrI z (16 - l)<p2 l:=fun z hz hz1=>by
  refine shr_lt h0 (by omega) hz ?_
  rw[show l+(16 - l)=16 by omega]
  show z<2 ^ (16:Int).toNat
  have:(2:Int) ^ (16:Int).toNat=65536:=by decide
  omega
 exact decide_eq_true ⟨h0,h1,shr_nn hf.1,shr_nn hf.2.2.1,key x hf.1 hf.2.1,key y hf.2.2.1 hf.2.2.2⟩
theorem homeL_right{x0 y0 x1 y1:Int}(hf:fits x0 y0=true):∀(f l:Nat) (h:Cel),l+f≤17→h.right=true→(homeL x0 y0 x1 y1 f l h).right=true
 | 0,_,_,_,hr=>hr
 | f+1,l,h,hl,hr=>by
   simp only[homeL]
   split
   ·exact homeL_right hf f (l+1) _ (by omega) (ofC_right (by omega) (by omega) hf)
   ·exact hr
theorem home_right{x0 y0 x1 y1:Int}(h:rcOk x0 y0 x1 y1=true):(homeC x0 y0 x1 y1).right=true:=by
 have hd:=of_decide_eq_true h
 exact homeL_right (decide_eq_true (by omega)) 17 0 ⟨0,0,0⟩ (by omega) (by decide)
theorem anc_root{h:Cel}(hr:h.right=true):anc h 0=⟨0,0,0⟩:=by
 have hR:=anc_right hr (Int.le_refl 0) (Cel.bd hr).1
 have:=of_decide_eq_true hR
 have e0:p2 0=1:=by decide
 have e1:(anc h 0).l=0:=rfl
 rw[e1,e0] at this
 cases hc:anc h 0
 rw[hc] at this e1
 simp only[] at this e1
 simp only[Cel.mk.injEq]
 omega
abbrev tCT:TypeId:=238
def cqH(T:QT)(B:List (Int×Shp)):List AObj:=[.cells [.lit T.ptr,.map 1] tCT,.mrow (mE iK shC B),.res T.R]
def cqR(a:Addr)(T:QT)(B:List (Int×Shp)):Res:=AtR a 0 (cqH T B)
structure CqI(T:QT):Prop where
 root:∃a k0 k1 k2 k3 many l,T=.node a ⟨0,0,0⟩ k0 k1 k2 k3 many l
 wf:QWf ⟨0,0,0⟩ T
theorem cqnew:CP [] 133 [] [] (fun v H'=>∃a T,v=.lit (.pointer (some a))∧H'=[.res (cqR a T [])]∧CqI T):=by
 refine CallS.lower (K':=fun v H'=>v=.ptr 2 0∧∃b,H'=[.res (QT.node b ⟨0,0,0⟩ .nil .nil .nil .nil 0 []).R,.mrow [],.cells [.lit (.pointer (some b)),.map 1] tCT]) ?_ ?_
 ·refine CallS.wk (K:=fun v H'=>v=.ptr 2 0∧∃b,H'=[.res (QT.node b ⟨0,0,0⟩ .nil .nil .nil .nil 0 []).R,.map [] 0,.cells [.lit (.pointer (some b)),.map 1] tCT]) ?_ ?_
  ·refine fn_ok ev_ok rfl ?_
   repeat' ((conv=>whnf);first|with_reducible apply brP_of<;>intro _|(refine (qfresh (c:=⟨0,0,0⟩)).use [] rfl rfl trivial ?_;rintro _ _ ⟨b,rfl,rfl⟩;refine ⟨[0],?_⟩))
   all_goals (try conv=>whnf)
   exact ⟨rfl,_,rfl⟩
  ·rintro _ _ ⟨rfl,b,rfl⟩
   exact ⟨_,.same (.map rfl rfl (by simp) (.same .nil)),rfl,b,rfl⟩
 ·rintro _ _ ⟨rfl,b,rfl⟩
  refine ⟨[],[2,1,0],2,0,cqH (QT.node b ⟨0,0,0⟩ .nil .nil .nil .nil 0 []) [],[],⟨rfl,rfl,tU,⟨⟨_,rfl,rfl⟩,⟨_,rfl,rfl⟩,⟨_,rfl,rfl⟩,tU⟩,Ent.picks _ [none,none,some 0] rfl,fun _=>rfl⟩,rfl,fun a=>⟨a,_,rfl,rfl,⟨b,_,_,_,_,_,_,rfl⟩,rfl,tU,tU,tU,tU⟩⟩
theorem aput_none'{α:Type}{id:Int}{r:α}{B:List (Int×α)}(h:aget id B=none):aput id r B=B++[(id,r)]:=by
 unfold aput
 unfold aget at h
 cases hf:afind id B 0 with
 | none=>rfl
 | some p=>rw[hf] at h;cases h
theorem cqput{a:Addr}{T:QT}{B:List (Int×Shp)}{s:Shp}(h:CqI T)(hr:rcOk s.x0 s.y0 s.x1 s.y1=true)(hs:aget s.id B=none):CP [] 54 [.lit (.pointer (some a)),.agg (shpA s)] [.res (cqR a T B)] (fun v H'=>v=iA 0∧∃T',H'=[.res (cqR a T' (B++[(s.id,s)]))]∧CqI T'):=by
 obtain ⟨⟨b,k0,k1,k2,k3,many,l,rfl⟩,hw⟩:=h
 have hh:=home_right hr
 have hl:=(Cel.bd hh).1
 have hq:=qput hh (s:=s) (homeC s.x0 s.y0 s.x1 s.y1).l.toNat 0 (Int.le_refl _) hl (by omega) b k0 k1 k2 k3 many l (by rw[anc_root hh];exact hw)
 rw[anc_root hh] at hq
 refine CallS.inR (K':=fun v H'=>v=iA 0∧∃ρ T',InOk ρ 0 H' (cqH T' (B++[(s.id,s)])) (iA 0)∧CqI T') ?_ (fun _=>rfl) ?_
 ·refine fn_ok ev_ok rfl ?_
  repeat' ((conv=>whnf);first|with_reducible apply brP_of<;>intro _|refine WpS.drawn ev_ok rfl rfl ?_|with_reducible refine And.intro (AgP.mk ⟨_,rfl,rfl⟩) ?_|(refine chome (x0:=s.x0) (y0:=s.y0) (x1:=s.x1) (y1:=s.y1) ?_;rw[hr,if_pos rfl])|refine OpP.look2 _ mapT_shp keyE_int rfl rfl rfl rfl (fun a ha=>by rw[hs] at ha;cases ha) (fun ha=>?_)|refine And.intro (AgP.look _ mapT_shp keyE_int rfl rfl rfl rfl rfl (by assumption) rfl rfl) ?_|refine OpP.mput (key:=s.id) (a:=s) mapT_shp keyE_int rfl rfl rfl rfl rfl rfl rfl rfl ?_|(refine hq.use [2] rfl rfl ⟨⟨_,rfl,kp⟩,tU⟩ ?_;rintro _ _ ⟨rfl,j0,j1,j2,j3,jm,jl,rfl,jw⟩;refine ⟨[],?_⟩)|refine fn_ok ev_ok rfl ?_)
  all_goals (try conv=>whnf)
  rw[aput_none' hs]
  exact ⟨rfl,[0,1,2],.node b ⟨0,0,0⟩ j0 j1 j2 j3 jm jl,⟨rfl,rfl,⟨⟨_,rfl,rfl⟩,⟨_,rfl,rfl⟩,⟨_,rfl,rfl⟩,tU⟩,Ent.picks _ [none,none,some 2] rfl,fun _=>rfl⟩,⟨b,j0,j1,j2,j3,jm,jl,rfl⟩,jw⟩
 ·rintro v H' ⟨rfl,ρ,T',h1,h2⟩
  exact ⟨ρ,_,h1,rfl,T',rfl,h2⟩
end Go.Proofs.YtmbdghclhpboaaaGreat
namespace Go.Proofs.YtmbdghclhpboaaaGreat
def wordL:List (List UInt8):=[[114,111,108,101],[108,97,98,101,108],[114,101,103,105,111,110],[97,108,108,111,119],[99,97,112],[99,108,111,97,107],[97,110,121],[97,108,108],[116,105,101,114],[105,110],[122,111,111,109]]
def isWord(s:List UInt8):Bool:=wordL.any (fun w=>decide (s=w))
def isLet(c:UInt8):Bool:=decide (97≤c.toNat∧c.toNat≤122)
def isDig(c:UInt8):Bool:=decide (48≤c.toNat∧c.toNat≤57)
def isInn(c:UInt8):Bool:=isLet c || isDig c || decide (c.toNat=45)
def isBlk(c:UInt8):Bool:=decide (c.toNat=32∨c.toNat=10)
def isHash(c:UInt8):Bool:=decide (c.toNat=35)
def noEnd(c:UInt8):Bool:=decide (c.toNat≠10)
def nameB(s:List UInt8):Bool:=decide (0<s.length∧s.length≤16)&&isLet (s.headD 0)&&!isWord s&&s.all isInn
structure Pt where
 i:Nat
 line:Nat
 col:Nat
def Pt.step(p:Pt)(c:UInt8):Pt:=⟨p.i+1,if c.toNat=10 then p.line+1 else p.line,if c.toNat=10 then 1 else p.col+1⟩
def Pt.adv(p:Pt)(l:List UInt8):Pt:=l.foldl Pt.step p
theorem Pt.adv_nil(p:Pt):p.adv []=p:=rfl
theorem Pt.adv_cons(p:Pt)(c:UInt8)(l:List UInt8):p.adv (c::l)=(p.step c).adv l:=rfl
theorem Pt.adv_app(p:Pt)(l m:List UInt8):p.adv (l++m)=(p.adv l).adv m:=List.foldl_append
theorem Pt.adv_i(l:List UInt8):∀(p:Pt),(p.adv l).i=p.i+l.length:=by
 induction l with
 | nil=>intro p;rfl
 | cons c l ih=>intro p;rw[Pt.adv_cons,ih];simp[Pt.step];omega
def Pt.low(p:Pt):Prop:=p.line≤p.i+1∧p.col≤p.i+1
theorem Pt.low_step{p:Pt}(h:p.low)(c:UInt8):(p.step c).low:=by
 unfold Pt.low Pt.step at *
 simp only
 split<;>omega
theorem Pt.low_adv(l:List UInt8):∀{p:Pt},p.low→(p.adv l).low:=by
 induction l with
 | nil=>intro p h;exact h
 | cons c l ih=>intro p h;rw[Pt.adv_cons];exact ih (Pt.low_step h c)
def Pt.zero:Pt:=⟨0,1,1⟩
theorem Pt.low_zero:Pt.zero.low:=⟨Nat.le_refl _,Nat.le_refl _⟩
def skipF:Nat→List UInt8→Nat
 | 0,_=>0
 | k+1,l=>
   let n:=(l.takeWhile isBlk).length
   match l.drop n with
   | []=>n
   | c :: r=>if isHash c then
       let m:=((c::r).takeWhile noEnd).length
       n+m+skipF k ((c::r).drop m)
    else n
def skipN(l:List UInt8):Nat:=skipF (l.length+1) l
def numF(s:List UInt8):Nat:=s.foldl (fun n c=>min 65536 (10 * n+(c.toNat - 48))) 0
def numD(s:List UInt8):Nat×Bool:=if 1<s.length∧s.headD 0=48 then (0,false) else (numF s,decide (numF s≤65535))
structure Tk where
 kind:Nat
 text:List UInt8
 n:Nat
 line:Nat
 col:Nat
deriving DecidableEq
def Tk.none:Tk:=⟨0,[],0,0,0⟩
def nextT(l:List UInt8):Tk×Nat:=
 match l with
 | []=>(Tk.none,30)
 | c::r=>
   if isLet c then
    let w:=(c::r).takeWhile isInn
    (⟨if isWord w then 2 else 1,w,0,0,0⟩,if 16<w.length then 2 else 0)
   else if isDig c then
    let w:=(c::r).takeWhile isDig
    if (numD w).2 then (⟨3,w,(numD w).1,0,0⟩,0) else (⟨3,w,0,0,0⟩,10)
   else if c.toNat=61∨c.toNat=43∨c.toNat=59 then (⟨4,[c],0,0,0⟩,0)
   else if c.toNat=46∧r.head?=some 46 then (⟨4,[46,46],0,0,0⟩,0)
   else (Tk.none,30)
structure Flt where
 err:Nat
 line:Nat
 col:Nat
deriving DecidableEq
def Flt.ok:Flt:=⟨0,0,0⟩
def toksF:Nat→List UInt8→Pt→List Tk→List Tk×Flt
 | 0,_,_,out=>(out,Flt.ok)
 | k+1,l,p,out=>
   let n:=skipN l
   let q:=p.adv (l.take n)
   match l.drop n with
   | []=>(out,Flt.ok)
   | c::r=>
     let t:=nextT (c::r)
     if t.2=0 then toksF k ((c::r).drop t.1.text.length) (q.adv ((c::r).take t.1.text.length)) (out++[{ t.1 with line:=q.line,col:=q.col }])
     else ([],⟨t.2,q.line,q.col⟩)
def toks(s:List UInt8):List Tk×Flt:=if 512<s.length then ([],⟨2,1,1⟩) else toksF (s.length+1) s Pt.zero []
def endP(s:List UInt8):Pt:=Pt.zero.adv s
theorem takeWhile_len{α:Type}(p:α→Bool):∀(l:List α),(l.takeWhile p).length≤l.length
 | []=>Nat.le_refl _
 | a::l=>by
   unfold List.takeWhile
   split
   ·simp[takeWhile_len p l]
   ·simp
theorem skipF_le:∀(k:Nat) (l:List UInt8),skipF k l≤l.length
 | 0,l=>Nat.zero_le _
 | k+1,l=>by
   have h1:=takeWhile_len isBlk l
   unfold skipF
   simp only
   split
   ·exact h1
   ·rename_i c r e
    split
    ·have h2:=takeWhile_len noEnd (c::r)
     have h3:=skipF_le k ((c::r).drop ((c::r).takeWhile noEnd).length)
     have h4:(c::r).length=l.length - (l.takeWhile isBlk).length:=by rw[←e,List.length_drop]
     rw[List.length_drop] at h3
     omega
    ·exact h1
theorem skipN_le(l:List UInt8):skipN l≤l.length:=skipF_le _ _
theorem nextT_len(c:UInt8)(r:List UInt8)(h:(nextT (c::r)).2=0):0<(nextT (c::r)).1.text.length∧(nextT (c::r)).1.text=(c::r).take (nextT (c::r)).1.text.length:=by
 have tw:∀(p:UInt8→Bool),p c=true→0<((c::r).takeWhile p).length∧(c::r).takeWhile p=(c::r).take ((c::r).takeWhile p).length:=fun p hp=>by
  refine ⟨by simp[List.takeWhile_cons,hp],?_⟩
  have:=List.takeWhile_prefix p (l:=c::r)
  exact (List.prefix_iff_eq_take.1 this)
 unfold nextT at h ⊢
 simp only at h ⊢
 by_cases h1:isLet c=true
 ·simp only[h1,if_true]
  exact tw isInn (by simp[isInn,h1])
 ·simp only[h1] at h ⊢
  by_cases h2:isDig c=true
  ·simp only[h2,if_true] at h ⊢
   by_cases h3:(numD ((c::r).takeWhile isDig)).2=true
   ·simp only[h3,if_true] at h ⊢
    exact tw isDig h2
   ·simp[h3] at h
  ·simp only[h2] at h ⊢
   by_cases h4:c.toNat=61∨c.toNat=43∨c.toNat=59
   ·simp[h4]
   ·simp only[h4,if_false] at h ⊢
    by_cases h5:c.toNat=46∧r.head?=some 46
    ·simp only[h5,and_self,if_true]
     obtain ⟨h6,h7⟩:=h5
     cases r with
     | nil=>simp at h7
     | cons d r=>
       simp only[List.head?_cons,Option.some.injEq] at h7
       subst h7
       have:c=46:=UInt8.toNat_inj.1 (by rw[h6];rfl)
       subst this
       simp
    ·simp[h5] at h
def moreB(pr:UInt8→Bool):List UInt8→Bool
 | []=>false
 | c::_=>pr c
theorem tw_lt(pr:UInt8→Bool):∀(l:List UInt8) (k:Nat),k<(l.takeWhile pr).length→moreB pr (l.drop k)=true
 | [],k,h=>by simp at h
 | c::l,k,h=>by
   rw[List.takeWhile_cons] at h
   by_cases hc:pr c=true
   ·rw[if_pos hc] at h
    cases k with
    | zero=>exact hc
    | succ k=>exact tw_lt pr l k (by simpa using h)
   ·rw[if_neg hc] at h
    simp at h
theorem tw_end(pr:UInt8→Bool):∀(l:List UInt8),moreB pr (l.drop (l.takeWhile pr).length)=false
 | []=>rfl
 | c::l=>by
   rw[List.takeWhile_cons]
   by_cases hc:pr c=true
   ·rw[if_pos hc]
    exact tw_end pr l
   ·rw[if_neg hc]
    simpa [moreB] using hc
theorem tw_take(pr:UInt8→Bool)(l:List UInt8):l.takeWhile pr=l.take (l.takeWhile pr).length:=List.prefix_iff_eq_take.1 (List.takeWhile_prefix pr)
theorem moreB_lt{pr:UInt8→Bool}{l:List UInt8}(h:moreB pr l=true):0<l.length:=by
 cases l with
 | nil=>cases h
 | cons c r=>simp
theorem hash_noEnd(l:List UInt8)(h:moreB isHash l=true):0<(l.takeWhile noEnd).length:=by
 cases l with
 | nil=>cases h
 | cons c r=>
   have h1:c.toNat=35:=by simpa [moreB,isHash] using h
   simp[List.takeWhile_cons,noEnd,h1]
theorem skipF_eq(k:Nat)(l:List UInt8):skipF (k+1) l=if moreB isHash (l.drop (l.takeWhile isBlk).length) then (l.takeWhile isBlk).length+((l.drop (l.takeWhile isBlk).length).takeWhile noEnd).length+skipF k ((l.drop (l.takeWhile isBlk).length).drop ((l.drop (l.takeWhile isBlk).length).takeWhile noEnd).length) else (l.takeWhile isBlk).length:=by
 conv=>lhs;unfold skipF
 simp only
 cases h:l.drop (l.takeWhile isBlk).length with
 | nil=>simp[moreB]
 | cons c r=>rfl
theorem skipF_fuel:∀(k j:Nat) (l:List UInt8),l.length<k→l.length<j→skipF k l=skipF j l
 | 0,_,l,h,_=>by omega
 | _,0,l,_,h=>by omega
 | k+1,j+1,l,h1,h2=>by
   rw[skipF_eq,skipF_eq]
   split
   ·rename_i hc
    have h3:=hash_noEnd _ hc
    have h4:=moreB_lt hc
    rw[skipF_fuel k j _ (by simp only[List.length_drop] at h4 ⊢;omega) (by simp only[List.length_drop] at h4 ⊢;omega)]
   ·rfl
theorem skipN_eq(l:List UInt8):skipN l=if moreB isHash (l.drop (l.takeWhile isBlk).length) then (l.takeWhile isBlk).length+((l.drop (l.takeWhile isBlk).length).takeWhile noEnd).length+skipN ((l.drop (l.takeWhile isBlk).length).drop ((l.drop (l.takeWhile isBlk).length).takeWhile noEnd).length) else (l.takeWhile isBlk).length:=by
 rw[skipN,skipF_eq]
 split
 ·rename_i hc
  have h3:=hash_noEnd _ hc
  have h4:=moreB_lt hc
  rw[skipN]
  congr 1
  exact skipF_fuel _ _ _ (by simp only[List.length_drop] at h4 ⊢;omega) (Nat.lt_succ_self _)
 ·rfl
theorem toksF_fuel:∀(k j:Nat) (l:List UInt8) (p:Pt) (out:List Tk),l.length<k→l.length<j→toksF k l p out=toksF j l p out
 | 0,_,l,_,_,h,_=>by omega
 | _,0,l,_,_,_,h=>by omega
 | k+1,j+1,l,p,out,h1,h2=>by
   unfold toksF
   simp only
   cases e:l.drop (skipN l) with
   | nil=>rfl
   | cons c r=>
     simp only
     split
     ·rename_i hz
      obtain ⟨h3,-⟩:=nextT_len c r hz
      have h4:(c::r).length≤l.length:=by rw[←e,List.length_drop];omega
      exact toksF_fuel k j _ _ _ (by rw[List.length_drop];simp only[List.length_cons] at h4 ⊢;omega) (by rw[List.length_drop];simp only[List.length_cons] at h4 ⊢;omega)
     ·rfl
def toksN(l:List UInt8)(p:Pt)(out:List Tk):List Tk×Flt:=toksF (l.length+1) l p out
theorem toksN_end(l:List UInt8)(p:Pt)(out:List Tk)(h:l.drop (skipN l)=[]):toksN l p out=(out,Flt.ok):=by
 unfold toksN toksF
 simp only[h]
theorem toksN_bad(l m:List UInt8)(p:Pt)(out:List Tk)(h:l.drop (skipN l)=m)(h0:m≠[])(hz:(nextT m).2≠0):toksN l p out=([],⟨(nextT m).2,(p.adv (l.take (skipN l))).line,(p.adv (l.take (skipN l))).col⟩):=by
 unfold toksN toksF
 simp only[h]
 cases m with
 | nil=>exact absurd rfl h0
 | cons c r=>simp only[if_neg hz]
theorem toksN_next(l m:List UInt8)(p:Pt)(out:List Tk)(h:l.drop (skipN l)=m)(h0:m≠[])(hz:(nextT m).2=0) :
  toksN l p out=toksN (m.drop (nextT m).1.text.length) ((p.adv (l.take (skipN l))).adv (m.take (nextT m).1.text.length)) (out++[{ (nextT m).1 with line:=(p.adv (l.take (skipN l))).line,col:=(p.adv (l.take (skipN l))).col }]):=by
 cases m with
 | nil=>exact absurd rfl h0
 | cons c r=>
   obtain ⟨h3,-⟩:=nextT_len c r hz
   have h4:(c::r).length≤l.length:=by rw[←h,List.length_drop];omega
   rw[toksN,toksF]
   simp only[h,if_pos hz]
   exact toksF_fuel _ _ _ _ _ (by rw[List.length_drop];simp only[List.length_cons] at h4 ⊢;omega) (by rw[List.length_drop];simp only[List.length_cons];omega)
structure Who where
 any:Bool
 name:List UInt8
 n:Nat
 line:Nat
 col:Nat
deriving DecidableEq
def Who.zero:Who:=⟨false,[],0,0,0⟩
structure Bx where
 x0:Nat
 y0:Nat
 x1:Nat
 y1:Nat
deriving DecidableEq
structure Dc where
 kind:Nat
 name:List UInt8
 n:Nat
 boxes:List Bx
 role:Who
 lo:Nat
 hi:Nat
 label:Who
 wh:Who
 zoom:Nat
 line:Nat
 col:Nat
def Dc.zero:Dc:=⟨0,[],0,[],Who.zero,0,0,Who.zero,Who.zero,0,0,0⟩
structure Pr where
 l:List Tk
 bad:Option (Nat×Nat)
def Pr.place(e:Nat×Nat)(p:Pr):Nat×Nat:=match p.l with
 | t::_=>(t.line,t.col)
 | []=>e
def Pr.wrong(e:Nat×Nat)(p:Pr):Pr:=match p.bad with
 | none=>⟨p.l,some (p.place e)⟩
 | some _=>p
def Pr.is(s:List UInt8)(p:Pr):Bool:=p.bad.isNone&&(match p.l with
 | t::_=>decide (t.text=s)
 | []=>false)
def Pr.kind(k:Nat)(p:Pr):Bool:=p.bad.isNone&&(match p.l with
 | t::_=>decide (t.kind=k)
 | []=>false)
def Pr.on(p:Pr):Pr:=⟨p.l.tail,p.bad⟩
def Pr.want(e:Nat×Nat)(s:List UInt8)(p:Pr):Pr:=if p.is s then p.on else p.wrong e
def Pr.take(e:Nat×Nat)(k:Nat)(p:Pr):Tk×Pr:=if p.kind k then (p.l.headD Tk.none,p.on) else (Tk.none,p.wrong e)
section
variable(e:Nat×Nat)
def tAny:List UInt8:=[97,110,121]
def tAll:List UInt8:=[97,108,108]
def tRole:List UInt8:=[114,111,108,101]
def tLabel:List UInt8:=[108,97,98,101,108]
def tRegion:List UInt8:=[114,101,103,105,111,110]
def tAllow:List UInt8:=[97,108,108,111,119]
def tCap:List UInt8:=[99,97,112]
def tCloak:List UInt8:=[99,108,111,97,107]
def tTier:List UInt8:=[116,105,101,114]
def tIn:List UInt8:=[105,110]
def tZoom:List UInt8:=[122,111,111,109]
def tDots:List UInt8:=[46,46]
def pName(p:Pr):List UInt8×Pr:=((p.take e 1).1.text,(p.take e 1).2)
def pNum(p:Pr):Nat×Pr:=((p.take e 3).1.n,(p.take e 3).2)
def pWho(p:Pr):Who×Pr:=
 let w:=p.place e
 if p.is tAny then (⟨true,[],0,w.1,w.2⟩,p.on)
 else if p.kind 1 then (⟨false,(pName e p).1,0,w.1,w.2⟩,(pName e p).2)
 else (⟨false,[],(pNum e p).1,w.1,w.2⟩,(pNum e p).2)
def pWhere(p:Pr):Who×Pr:=
 let w:=p.place e
 if p.is tAll then (⟨true,[],0,w.1,w.2⟩,p.on)
 else (⟨false,(pName e p).1,0,w.1,w.2⟩,(pName e p).2)
def pTiers(p:Pr):Nat×Nat×Pr:=
 if p.is tAny then (0,7,p.on)
 else
  let a:=pNum e p
  if a.2.is tDots then (a.1,pNum e a.2.on)
  else (a.1,a.1,a.2)
def pBox(p:Pr):Bx×Pr:=
 let a:=pNum e p
 let b:=pNum e a.2
 let c:=pNum e b.2
 let d:=pNum e c.2
 (⟨a.1,b.1,c.1,d.1⟩,d.2)
def pMore:Nat→Pr→List Bx→List Bx×Pr
 | 0,p,out=>(out,p)
 | k+1,p,out=>if p.is [43] then pMore k (pBox e p.on).2 (out++[(pBox e p.on).1]) else (out,p)
def pBoxes(p:Pr):List Bx×Pr:=pMore e p.l.length (pBox e p).2 [(pBox e p).1]
def pNamed(d:Dc)(p:Pr):Dc×Pr:=
 let a:=pName e p
 let b:=pNum e (a.2.want e [61])
 ({ d with name:=a.1,n:=b.1 },b.2)
def pRegion(d:Dc)(p:Pr):Dc×Pr:=
 let a:=pName e p
 let b:=pBoxes e (a.2.want e [61])
 ({ d with name:=a.1,boxes:=b.1 },b.2)
def pCloak(d:Dc)(p:Pr):Dc×Pr:=
 let a:=pWho e (p.want e tRole)
 ({ d with role:=a.1 },a.2)
def pRule(d:Dc)(p:Pr):Dc×Pr:=
 let c:=pCloak e d p
 let t:=pTiers e (c.2.want e tTier)
 let l:=pWho e (t.2.2.want e tLabel)
 let r:=pWhere e (l.2.want e tIn)
 let z:=pNum e (r.2.want e tZoom)
 ({ c.1 with lo:=t.1,hi:=t.2.1,label:=l.1,wh:=r.1,zoom:=z.1 },z.2)
def pDecl(p:Pr):Dc×Pr:=
 let w:=p.place e
 let d:Dc:={ Dc.zero with line:=w.1,col:=w.2 }
 let x:=if p.is tRole then pNamed e { d with kind:=1 } p.on
  else if p.is tLabel then pNamed e { d with kind:=2 } p.on
  else if p.is tRegion then pRegion e { d with kind:=3 } p.on
  else if p.is tAllow then pRule e { d with kind:=4 } p.on
  else if p.is tCap then pRule e { d with kind:=5 } p.on
  else if p.is tCloak then pCloak e { d with kind:=6 } p.on
  else pRule e d (p.wrong e)
 (x.1,x.2.want e [59])
def pAllF:Nat→Pr→List Dc→List Dc×Pr
 | 0,p,out=>(out,p)
 | k+1,p,out=>if p.l=[]∨p.bad≠none then (out,p) else pAllF k (pDecl e p).2 (out++[(pDecl e p).1])
end
def parse(s:List UInt8):List Dc×Flt:=
 if (toks s).2.err≠0 then ([],(toks s).2)
 else
  let e:=((endP s).line,(endP s).col)
  let r:=pAllF e ((toks s).1.length+1) ⟨(toks s).1,none⟩ []
  match r.2.bad with
  | none=>(r.1,Flt.ok)
  | some b=>([],⟨31,b.1,b.2⟩)
def whoR(w:Who):Bool:=if w.any then decide (w.name=[]∧w.n=0) else if w.name≠[] then decide (w.n=0)&&nameB w.name else decide (w.n≤65535)
def whoP(w:Who):Bool:=whoR w&&(w.any || decide (w.name≠[]))
def whoZ(w:Who):Bool:=!w.any&&decide (w.name=[]∧w.n=0)
def ruleR(d:Dc):Bool:=whoR d.role&&decide (d.lo≤65535∧d.hi≤65535∧d.zoom≤65535)&&whoR d.label&&whoP d.wh
def noRule(d:Dc):Bool:=decide (d.lo=0∧d.hi=0∧d.zoom=0)&&whoZ d.label&&whoZ d.wh
def noName(d:Dc):Bool:=decide (d.name=[]∧d.n=0∧d.boxes=[])
def boxesR(l:List Bx):Bool:=l.all (fun b=>decide (b.x0≤65535∧b.y0≤65535∧b.x1≤65535∧b.y1≤65535))&&decide (l≠[])
def mayD(d:Dc):Bool:=
 if d.kind=1∨d.kind=2 then nameB d.name&&decide (d.n≤65535)&&decide (d.boxes=[])&&whoZ d.role&&noRule d
 else if d.kind=3 then nameB d.name&&decide (d.n=0)&&boxesR d.boxes&&whoZ d.role&&noRule d
 else if d.kind=4∨d.kind=5 then noName d&&ruleR d
 else if d.kind=6 then noName d&&whoR d.role&&noRule d
 else false
structure Rl where
 kind:Nat
 roles:Nat
 lo:Nat
 hi:Nat
 labels:Nat
 boxes:List Bx
 zoom:Nat
def bxOk(b:Bx):Bool:=decide (b.x0≤65535∧b.y0≤65535∧b.x1≤65535∧b.y1≤65535∧b.x0≤b.x1∧b.y0≤b.y1)
structure Ck where
 roles:List (List UInt8×Nat)
 labels:List (List UInt8×Nat)
 regions:List (List UInt8×List Bx)
 rules:List Rl
 boxes:Nat
 fault:Flt
def Ck.zero:Ck:=⟨[],[],[],[],0,Flt.ok⟩
def Ck.wrong(e line col:Nat)(c:Ck):Ck:=if c.fault.err=0 then { c with fault:=⟨e,line,col⟩ } else c
def assoc{β:Type}(l:List (List UInt8×β))(k:List UInt8):Option β:=(l.find? (fun x=>decide (x.1=k))).map (·.2)
def Ck.names(k:Nat)(c:Ck):List (List UInt8×Nat):=if k=1 then c.roles else c.labels
def ckNumber(d:Dc)(c:Ck):Ck:=
 if (assoc (c.names d.kind) d.name).isSome then c.wrong 20 d.line d.col
 else if 7<d.n then c.wrong 33 d.line d.col
 else if d.kind=1 then { c with roles:=c.roles++[(d.name,d.n)] } else { c with labels:=c.labels++[(d.name,d.n)] }
def ckRegion(d:Dc)(c:Ck):Ck:=
 if (assoc c.regions d.name).isSome then c.wrong 20 d.line d.col
 else if !d.boxes.all bxOk then c.wrong 33 d.line d.col
 else { c with regions:=c.regions++[(d.name,d.boxes)] }
def ckSet(kind:Nat)(w:Who)(c:Ck):Nat×Ck:=
 if w.any then (255,c)
 else
  let n:=if w.name≠[] then (assoc (c.names kind) w.name).getD 0 else w.n
  let c:=if w.name≠[]∧assoc (c.names kind) w.name=none then c.wrong 21 w.line w.col else c
  if 7<n then (0,c.wrong 33 w.line w.col) else (2 ^ n,c)
def ckWhere(w:Who)(c:Ck):List Bx×Ck:=
 if w.any then ([⟨0,0,65535,65535⟩],c)
 else match assoc c.regions w.name with
  | some l=>(l,c)
  | none=>([],c.wrong 21 w.line w.col)
def ckRule(d:Dc)(c:Ck):Ck:=
 let c:=if c.rules.length=32 then c.wrong 2 d.line d.col else c
 let s:=ckSet 1 d.role c
 if d.kind=6 then { s.2 with rules:=s.2.rules++[⟨6,s.1,0,0,0,[],0⟩] }
 else
  let c:Ck:=if d.hi<d.lo∨7<d.hi then s.2.wrong 33 d.line d.col else s.2
  let t:=ckSet 2 d.label c
  let b:=ckWhere d.wh t.2
  let c:Ck:={ b.2 with boxes:=b.2.boxes+b.1.length }
  let c:Ck:=if 32<c.boxes then c.wrong 2 d.line d.col else c
  let c:Ck:=if 16<d.zoom then c.wrong 33 d.line d.col else c
  { c with rules:=c.rules++[⟨d.kind,s.1,d.lo,d.hi,t.1,b.1,d.zoom⟩] }
def ckDecl(d:Dc)(c:Ck):Ck:=if d.kind=1∨d.kind=2 then ckNumber d c else if d.kind=3 then ckRegion d c else ckRule d c
def ckAll:List Dc→Ck→Ck
 | [],c=>c
 | d::r,c=>if (ckDecl d c).fault.err=0 then ckAll r (ckDecl d c) else ckDecl d c
def check(l:List Dc):List Rl×Flt:=
 if !l.all mayD then ([],⟨1,0,0⟩)
 else if (ckAll l Ck.zero).fault.err=0 then ((ckAll l Ck.zero).rules,Flt.ok) else ([],(ckAll l Ck.zero).fault)
def readR(s:List UInt8):List Rl×Flt:=if (parse s).2.err=0 then check (parse s).1 else ([],(parse s).2)
end Go.Proofs.YtmbdghclhpboaaaGreat
