/- Part of the proof: Pt. Conditions: as each states. -/
import Derived.Test.YtmbdghclhpboaaaGreatPb24
set_option linter.all false
set_option maxRecDepth 100000
namespace Go.Proofs.YtmbdghclhpboaaaGreat
open Ev
abbrev tPT:TypeId:=331
abbrev tPN:TypeId:=426
abbrev tRc:TypeId:=72
def rcL(r:Rcd):List Value:=[iK r.id,iK r.x,iK r.y,iK r.label]
theorem rcL_len(r:Rcd):(rcL r).length=4:=rfl
def pnC(n:PN):List Value:=[iK n.c.l,iK n.c.x,iK n.c.y,iK n.k0,iK n.k1,iK n.k2,iK n.k3,iK n.many,.bool n.split,n.v]
theorem pnC_len(n:PN):(pnC n).length=10:=rfl
theorem app_pn:AppT ev 329 tPN 10:=⟨⟨_,rfl,rfl⟩,_,_,rfl,rfl,rfl,rfl,by decide⟩
theorem app_rc:AppT ev 24 tRc 4:=⟨⟨_,rfl,rfl⟩,_,_,rfl,rfl,rfl,rfl,by decide⟩
theorem mapT_rc:MapT ev 328 3 (.agg [iA 0,iA 0,iA 0,iA 0]):=⟨_,_,_,_,rfl,rfl,rfl,rfl,rfl⟩
def poolL(ns:List PN):List Res:=ns.map fun n=>OwnR rcL 4 tRc n.v n.l
def poolR(ns:List PN):Res:=Res.star (poolL ns)
theorem poolL_get{ns:List PN}{i:Nat}{n:PN}(h:ns[i]?=some n):(poolL ns)[i]?=some (OwnR rcL 4 tRc n.v n.l):=by unfold poolL;rw[List.getElem?_map,h];rfl
theorem poolL_set{ns:List PN}{i:Nat}(m:PN):poolL (ns.set i m)=(poolL ns).set i (OwnR rcL 4 tRc m.v m.l):=by unfold poolL;rw[List.map_set]
theorem pool_same{ns:List PN}{i:Nat}{n m:PN}(h:ns[i]?=some n)(hv:m.v=n.v)(hl:m.l=n.l):poolR (ns.set i m)=poolR ns:=by
 unfold poolR
 rw[poolL_set,hv,hl]
 congr 1
 apply List.ext_getElem?
 intro j
 rw[List.getElem?_set]
 split
 ·rename_i e
  subst e
  rw[poolL_get h,if_pos (by unfold poolL;rw[List.length_map];exact get_lt h)]
 ·rfl
theorem pool_split{ns:List PN}{i:Nat}{n:PN}(h:ns[i]?=some n)(w:World)(S:Nat→Prop)(hp:(poolR ns).at_ w S):stars [OwnR rcL 4 tRc n.v n.l,Res.star ((poolL ns).set i resNil)] w S:=by
 obtain ⟨S1,S2,h1,h2,h3,h4⟩:=stars_at hp (poolL_get h)
 exact ⟨S1,S2,h1,⟨S2,fun _=>False,h2,fun _ h=>h,fun _ _ h=>h,fun b=>by simp⟩,h3,h4⟩
theorem pool_join{ns:List PN}{i:Nat}{n m:PN}(h:ns[i]?=some n)(w:World)(S:Nat→Prop)(hp:stars [OwnR rcL 4 tRc m.v m.l,Res.star ((poolL ns).set i resNil)] w S):(poolR (ns.set i m)).at_ w S:=by
 obtain ⟨S1,S2,h1,⟨T1,T2,k1,k2,_,k4⟩,h3,h4⟩:=hp
 have e:∀b,T1 b↔S2 b:=fun b=>by rw[k4 b];exact ⟨.inl,fun h=>h.elim id (fun h=>absurd h (k2 b))⟩
 have:=stars_put (i:=i) (r:=OwnR rcL 4 tRc m.v m.l) k1 (get_lt (poolL_get h)) h1 (fun b x y=>h3 b x ((e b).1 y))
 rw[←poolL_set] at this
 exact stars_iff this fun b=>by rw[h4 b,e b]
def vOk(n:PN):Prop:=(n.v=nilV∧n.l=[])∨∃a c,n.v=.slice (some a) n.l.length c
def VOk(ns:List PN):Prop:=∀(i:Nat) (n:PN),ns[i]?=some n→vOk n
theorem VOk.set{ns:List PN}{i:Nat}{m:PN}(h:VOk ns)(hm:vOk m):VOk (ns.set i m):=fun j n hn=>by
 rcases set_get hn with ⟨_,rfl,_⟩|⟨_,hn⟩
 ·exact hm
 ·exact h j n hn
theorem pool_vok{ns:List PN}(w:World)(S:Nat→Prop)(hp:(poolR ns).at_ w S):VOk ns:=fun i n hn=>by
 obtain ⟨S1,S2,h1,_⟩:=pool_split hn w S hp
 rcases h1.1.2 with ⟨e,h0⟩|⟨g,cap,cur,e,_⟩
 ·exact .inl ⟨e,List.eq_nil_of_length_eq_zero h0⟩
 ·exact .inr ⟨_,_,e⟩
theorem own_nil{w:World}:(OwnR rcL 4 tRc nilV []).at_ w (fun _=>False):=⟨Own.nil,fun b=>by simp[nilV,Value.ownBlock]⟩
theorem pool_part{ns:List PN}{i:Nat}{n m:PN}(h:ns[i]?=some n)(hv:m.v=nilV)(hl:m.l=[])(w:World)(S:Nat→Prop)(hp:(poolR ns).at_ w S):stars [OwnR rcL 4 tRc n.v n.l,poolR (ns.set i m)] w S:=by
 obtain ⟨S1,S2,h1,h2,h3,h4⟩:=stars_at hp (poolL_get h)
 have:=stars_put (i:=i) (r:=OwnR rcL 4 tRc m.v m.l) h2 (get_lt (poolL_get h)) (by rw[hv,hl];exact own_nil) (fun _ h _=>h)
 rw[←poolL_set] at this
 have h5:(poolR (ns.set i m)).at_ w S2:=stars_iff this fun b=>by simp
 exact ⟨S1,S2,h1,⟨S2,fun _=>False,h5,fun _ h=>h,fun _ _ h=>h,fun b=>by simp⟩,h3,h4⟩
theorem pool_leaf{ns:List PN}{c:Cel}(w:World)(S:Nat→Prop)(hp:(poolR ns).at_ w S):(poolR (ns++[PN.leaf c])).at_ w S:=by
 show stars (poolL (ns++[PN.leaf c])) w S
 unfold poolL
 rw[List.map_append]
 exact stars_append.2 ⟨S,fun _=>False,hp,⟨fun _=>False,fun _=>False,own_nil,fun _ h=>h,fun _ h _=>h,fun b=>by simp⟩,fun _ _ h=>h,fun b=>by simp⟩
def En(ns:List PN):List PN:=ns.map PN.er
theorem En_get{ns:List PN}{i:Nat}{n:PN}(h:ns[i]?=some n):(En ns)[i]?=some n.er:=by unfold En;rw[List.getElem?_map,h];rfl
theorem En_some{ns:List PN}{i:Nat}{m:PN}(h:(En ns)[i]?=some m):∃n,ns[i]?=some n∧m=n.er:=by
 unfold En at h
 rw[List.getElem?_map] at h
 cases hn:ns[i]? with
 | none=>rw[hn] at h;cases h
 | some n=>rw[hn] at h;exact ⟨n,rfl,(Option.some.inj h).symm⟩
theorem En_set{ns:List PN}{i:Nat}(m:PN):En (ns.set i m)=(En ns).set i m.er:=by unfold En;rw[List.map_set]
theorem En_len(ns:List PN):(En ns).length=ns.length:=by unfold En;rw[List.length_map]
inductive FQ where
 | nil
 | row (l:List Int) (junk:List Value)
def FQ.fr:FQ→List Int
 | .nil=>[]
 | .row l _=>l
def FQ.v:FQ→AV
 | .nil=>.lit (.slice none 0 0)
 | .row l _=>.slice 4 0 l.length (.grown 1)
def FQ.o:FQ→AObj
 | .nil=>.res resNil
 | .row l junk=>.row (l.map iK++junk) 3
def ptH(bk:Int)(ns:List PN)(n:Nat)(by_:List (Int×Rcd))(q:FQ):List AObj:=[.cells [iA bk,.slice 1 0 n (.grown 10),q.v,.map 2] tPT,.row (ns.flatMap pnC) tPN,.mrow (mE iK rcC by_),.res (poolR ns),q.o]
theorem ptleaf{bk:Int}{ns:List PN}{n:Nat}{B:List (Int×Rcd)}{c:Cel}(hn:ns.length=n)(hb:n≤2000000000):CP [] 223 [.ptr 0 0,celA c] (ptH bk ns n B .nil) (fun v H'=>v=iA n∧∃G1 G2 G3,H'=[.cells [iA bk,.slice 8 0 (n+1) (.grown 10),.lit (.slice none 0 0),.map 2] tPT,.dead,.mrow (mE iK rcC B),.res (poolR ns),.res resNil,G1,G2,G3,.row ((ns++[PN.leaf c]).flatMap pnC) tPN]):=by
 refine fn_ok ev_ok rfl ?_
 repeat' ((conv=>whnf);first|with_reducible apply brP_of<;>intro _|refine WpS.drawn ev_ok rfl rfl ?_|with_reducible refine And.intro (AgP.mk ⟨_,rfl,rfl⟩) ?_|refine AppP.own app_pn rfl rfl rfl rfl rfl rfl (by rw[flat_len pnC_len,hn]) (by omega) ?_)
 all_goals (try conv=>whnf)
 rw[List.flatMap_append]
 exact ⟨congrArg iA (wrap_eq (by omega)),_,_,_,rfl⟩
theorem way2{x y:Int}(hx:0≤x)(hy:0≤y):IntKind.i64.wrap (x.tmod 2+IntKind.i64.wrap (y.tmod 2 * 2))=x % 2+y % 2 * 2:=by
 rw[Int.tmod_eq_emod_of_nonneg hx,Int.tmod_eq_emod_of_nonneg hy,wrap_in (n:=y % 2 * 2) (by omega) (by omega)]
 exact wrap_in (by omega) (by omega)
theorem dcel_nn{b:Bool}{x y l:Int}(h:b=true→0≤x∧0≤y):0≤(if b=true then ofC x y l else ⟨0,0,0⟩:Cel).x∧0≤(if b=true then ofC x y l else ⟨0,0,0⟩:Cel).y:=by
 split
 ·rename_i hb
  exact ⟨shr_nn (h hb).1,shr_nn (h hb).2⟩
 ·exact ⟨Int.le_refl _,Int.le_refl _⟩
theorem fits_nn{b:Bool}{x y:Int}(h:(b&&fits x y)=true):0≤x∧0≤y:=by
 simp only[Bool.and_eq_true] at h
 have:=of_decide_eq_true h.2
 omega
theorem ptkid{bk:Int}{ns:List PN}{n i:Nat}{B:List (Int×Rcd)}{q:FQ}{r:Rcd}{nd:PN}(hn:ns.length=n)(hi:ns[i]?=some nd)(hr:nd.c.right=true):CP [] 319 [.ptr 0 0,iA i,.agg [iA r.x,iA r.y]] (ptH bk ns n B q) (fun v H'=>v=iA (nd.way r)∧∃G,H'=ptH bk ns n B q++G):=by
 have hil:i<n:=by have:=get_lt hi;omega
 have hb:=Cel.bd hr
 have ew:IntKind.i64.wrap (nd.c.l+1)=nd.c.l+1:=wrap_in (by omega) (by omega)
 have hnn:=dcel_nn (b:=decide (0≤nd.c.l+1∧nd.c.l+1≤16)&&fits r.x r.y) (x:=r.x) (y:=r.y) (l:=nd.c.l+1) fits_nn
 rcases q with _|⟨l,junk⟩
 all_goals
  refine fn_ok ev_ok rfl ?_
  repeat' ((conv=>whnf);first|with_reducible apply brP_of<;>intro _|refine WpS.drawn ev_ok rfl rfl ?_|with_reducible refine And.intro (AgP.mk ⟨_,rfl,rfl⟩) ?_|refine And.intro (AgP.fld (j:=0) pnC_len hi rfl rfl rfl rfl rfl rfl rfl rfl rfl rfl) ?_|refine IdxP.of (k:=i) rfl hil ?_|refine RowP.fld (j:=0) pnC_len hi rfl rfl ?_|(refine cOf (l:=IntKind.i64.wrap (nd.c.l+1)) ?_;rw[ew])|refine OpP.rem rfl rfl rfl ?_)
  all_goals (try conv=>whnf)
  all_goals exact ⟨congrArg iA (way2 hnn.1 hnn.2),_,rfl⟩
def ptHB(bk:Int)(ns:List PN)(n:Nat)(by_:List (Int×Rcd))(q:FQ):List AObj:=[.cells [iA bk,.slice 5 0 n (.grown 10),q.v,.map 2] tPT,.dead,.mrow (mE iK rcC by_),.res (poolR ns),q.o,.row (ns.flatMap pnC) tPN]
def PtPost(bk:Int)(B:List (Int×Rcd))(s:PS)(v:AV)(H:List AObj):Prop:=v=undefV∧∃ns,En ns=s.ns∧s.fr=[]∧(H=ptH bk ns ns.length B .nil∨H=ptHB bk ns ns.length B .nil)
abbrev noX:Nat→Prop:=fun _=>False
def PutC(bk f:Nat):Prop:=∀(ns:List PN) (n i:Nat) (nd:PN) (B:List (Int×Rcd)) (r:Rcd),ns.length=n→ns[i]?=some nd→PWf bk noX ⟨En ns,[]⟩→1+roomI nd≤f→1≤f→(n:Int)+4 * roomI nd≤2000000000→tot (En ns)+1≤2000000000 →
 CP [] 233 [.ptr 0 0,iA i,.agg (rcdA r)] (ptH bk ns n B .nil) (PtPost bk B (putM bk f ⟨En ns,[]⟩ i r))
def PartC(bk f:Nat):Prop:=∀(ns:List PN) (n i:Nat) (nd:PN) (B:List (Int×Rcd)),ns.length=n→ns[i]?=some nd→PWf bk (·=i) ⟨En ns,[]⟩→nd.split=false→nd.c.l<16→nd.l.length≤bk+1→nd.l≠[]→16 - nd.c.l≤f→1≤f→(n:Int)+4 * (16 - nd.c.l)≤2000000000→tot (En ns)≤2000000000 →
 CP [] 320 [.ptr 0 0,iA i] (ptH bk ns n B .nil) (PtPost bk B (partM (putM bk f) ⟨En ns,[]⟩ i))
theorem kid_at(nd:PN){k:Nat}(h:k<4):(pnC nd)[3+k]?=some (iK (nd.kid k)):=by
 rcases (by omega:k=0∨k=1∨k=2∨k=3) with rfl|rfl|rfl|rfl<;>rfl
theorem put_step{bk f:Nat}(hpart:PartC bk f):PutC bk (f+1):=by
 intro ns n i nd0 B r hn hi hw hf _ hlen htot
 have hb0:=Cel.bd (hw.cell i _ (En_get hi))
 have he0:nd0.er.c=nd0.c:=rfl
 rw[he0] at hb0
 obtain ⟨m,d1,d2,d3,d4,d5,d6,d7,d8⟩:=pdown_ok (r:=r) 17 hw (En_get hi) (by simp) (by have:=(Cel.bd (hw.cell i _ (En_get hi))).1;omega)
 refine CallS.use (args0:=[.ptr 0 0,iA i,.agg (rcdA r)]) (H0:=ptH bk ns n B .nil) (K0:=fun v H'=>∃ks,useK [0,1,2,3,4] ks (ptH bk ns n B .nil) H' v (PtPost bk B (putM bk (f+1) ⟨En ns,[]⟩ i r))) ?_ [0,1,2,3,4] rfl rfl ⟨⟨_,rfl,rfl⟩,⟨_,rfl,rfl⟩,⟨_,rfl,rfl⟩,⟨_,rfl,kp⟩,⟨_,rfl,kp⟩,tU⟩ (fun v H' h=>h)
 refine CallS.know 3 rfl pool_vok fun hvk=>?_
 refine fn_ok ev_ok rfl ?_
 conv=>whnf
 refine loopP ev_ok rfl (fun s:List PN×Nat×Nat=>[(0,.ptr 0 0),(1,iA s.2.1),(5,.ptr 5 0)]) (fun s=>ptH bk s.1 n B .nil++[.cells (rcdA r) tRc]) (fun s=>s.1.length=n∧VOk s.1∧∃nd,s.1[s.2.1]?=some nd∧PWf bk noX ⟨En s.1,[]⟩∧17 - nd.c.l≤s.2.2∧downM s.2.2 (En s.1) s.2.1 r=downM 17 (En ns) i r) (fun s=>s.2.2) (ns,i,17) ⟨hn,hvk,nd0,hi,hw,by show 17 - nd0.c.l≤17;omega,rfl⟩ [0,1,2,3,4,5] ?_ ?_
 ·exact ⟨rfl,⟨⟨rfl,rfl⟩,⟨rfl,rfl⟩,⟨rfl,rfl⟩,tU⟩,⟨⟨_,rfl,rfl⟩,⟨_,rfl,rfl⟩,⟨_,rfl,rfl⟩,⟨_,rfl,kp⟩,⟨_,rfl,kp⟩,⟨_,rfl,rfl⟩,tU⟩⟩
 ·rintro ⟨ms,j,g⟩ ⟨hm,hvm,nd,hj,hmw,hg,hd⟩
  simp only[] at hm hvm hj hmw hg hd
  have hjn:j<n:=by have:=get_lt hj;omega
  have hcr:=hmw.cell j _ (En_get hj)
  have hcb:=Cel.bd hcr
  obtain ⟨kw,hkw,hk4⟩:∃k:Nat,nd.way r=(k:Int)∧k<4:=⟨(nd.way r).toNat,by have:=way_rng nd r;omega,by have:=way_rng nd r;omega⟩
  conv=>whnf
  refine IdxP.of (k:=j) rfl hjn ?_
  conv=>whnf
  refine RowP.fld (j:=8) pnC_len hj rfl rfl ?_
  conv=>whnf
  refine brP_of (fun hs=>?_) (fun hs=>?_)
  ·have hps:poolR (ms.set j { nd with many:=IntKind.i64.wrap (nd.many+1) })=poolR ms:=pool_same hj rfl rfl
   have hj':(ms.set j { nd with many:=IntKind.i64.wrap (nd.many+1) })[j]?=some { nd with many:=IntKind.i64.wrap (nd.many+1) }:=get_set hj
   repeat' ((conv=>whnf);first|with_reducible apply brP_of<;>intro _|refine WpS.drawn ev_ok rfl rfl ?_|with_reducible refine And.intro (AgP.mk ⟨_,rfl,rfl⟩) ?_|refine IdxP.of (k:=j) rfl hjn ?_|refine IdxP.of (k:=kw) hkw hk4 ?_|refine RowP.fld (j:=7) pnC_len hj rfl rfl ?_|refine OpP.rowFld (j:=7) (x:={ nd with many:=IntKind.i64.wrap (nd.many+1) }) pnC_len hj rfl rfl rfl rfl rfl rfl rfl rfl rfl rfl rfl rfl ?_|(refine (ptkid (n:=n) (B:=B) (q:=.nil) (r:=r) (by simp[hm]) hj' hcr).use [0,1,2,3,4] rfl rfl ⟨⟨_,rfl,rfl⟩,⟨_,rfl,rfl⟩,⟨_,rfl,rfl⟩,⟨_,rfl,fun _ _ h=>by rw[hps];exact h⟩,⟨_,rfl,kp⟩,tU⟩ ?_;rintro _ _ ⟨rfl,G,rfl⟩;refine ⟨[],?_⟩)|refine RowP.fld (j:=3+kw) pnC_len hj' (by omega) (kid_at _ hk4) ?_)
   all_goals (try conv=>whnf)
   obtain ⟨k,x,h1,h2,h3,_⟩:=(hmw.kids j _ (En_get hj) hs).kid (nd.way r) (way_rng nd r).1 (way_rng nd r).2
   obtain ⟨g,rfl⟩:∃e,g=e+1:=⟨g - 1,by have:nd.er.c.l=nd.c.l:=rfl;omega⟩
   obtain ⟨y,hy,rfl⟩:=En_some h2
   have hlt:=(hmw.kids j _ (En_get hj) hs).lt
   have hcl:=child_right hcr hlt (way_rng nd r).1 (way_rng nd r).2
   have hkj:k≠j:=fun e=>by
    rw[e,hj] at hy
    cases hy
    rw[←h3] at hcl
    omega
   have hw2:=hmw.turn (m:={ nd.er with many:=IntKind.i64.wrap (nd.many+1) }) (En_get hj) ⟨rfl,rfl,rfl,rfl,rfl,rfl⟩ (fun _ hh=>by rw[show nd.er.split=nd.split from rfl,hs] at hh;cases hh)
   have hdd:downM (g+1) (En ms) j r=downM g (En (ms.set j { nd with many:=IntKind.i64.wrap (nd.many+1) })) k r:=by
    simp only[downM,En_get hj,En_set]
    rw[if_pos (show nd.er.split=true from hs),show nd.er.way r=nd.way r from rfl,h1,Int.toNat_natCast]
    rfl
   exact ⟨(ms.set j { nd with many:=IntKind.i64.wrap (nd.many+1) },k,g),[0,1,2,3,4,5],⟨⟨by simp[hm],hvm.set (hvm j nd hj),y,by show (ms.set j _)[k]?=_;rw[List.getElem?_set,if_neg (Ne.symm hkj)];exact hy,by rw[En_set];exact hw2,by
     have e1:y.c.l=nd.c.l+1:=by rw[show y.c=nd.c.child (nd.way r) from h3];exact hcl.2
     show 17 - y.c.l≤g
     omega,by rw[←hd,hdd]⟩,Nat.lt_succ_self g⟩,rfl,⟨⟨rfl,rfl⟩,⟨rfl,subInt rfl (by rw[←hkw];exact h1)⟩,⟨rfl,rfl⟩,tU⟩,⟨⟨_,rfl,rfl⟩,⟨_,rfl,rfl⟩,⟨_,rfl,rfl⟩,⟨_,rfl,kp⟩,⟨_,rfl,kp⟩,⟨_,rfl,rfl⟩,tU⟩⟩
  ·have hg1:∃e,g=e+1:=⟨g - 1,by have:nd.er.c.l=nd.c.l:=rfl;omega⟩
   obtain ⟨g,rfl⟩:=hg1
   have hdd:downM (g+1) (En ms) j r=(En ms,j):=by
    simp only[downM,En_get hj]
    rw[if_neg (by rw[show nd.er.split=nd.split from rfl,hs];simp)]
   rw[hdd] at hd
   have dk:=pdown_ok (r:=r) 17 hw (En_get hi) (by simp) (by have:=(Cel.bd (hw.cell i _ (En_get hi))).1;omega)
   simp only[←hd] at d1 d2 d3 d4 d5 d6
   have e1:=En_get hj
   rw[e1] at d1
   cases d1
   have htl:=tot_le (En_get hj)
   have htd:=down_tot (r:=r) 17 (ns:=En ns) (i:=i)
   rw[←hd] at htd
   have htl2:nd.l.length≤tot (En ms):=htl
   have htd2:tot (En ms)=tot (En ns):=htd
   have hj1:(ms.set j { nd with many:=IntKind.i64.wrap (nd.many+1) })[j]?=some { nd with many:=IntKind.i64.wrap (nd.many+1) }:=get_set hj
   have hjn':∀(v':Value) (w:World) (S:Nat→Prop),stars [OwnR rcL 4 tRc v' (nd.l++[r]),Res.star ((poolL ms).set j resNil)] w S→(poolR (ms.set j { nd with many:=IntKind.i64.wrap (nd.many+1),l:=nd.l++[r],v:=v' })).at_ w S:=fun v' w S h=>pool_join (m:={ nd with many:=IntKind.i64.wrap (nd.many+1),l:=nd.l++[r],v:=v' }) hj w S h
   have happ:∀(v:Value),nd.v=v→∀w S,(poolR ms).at_ w S→stars [OwnR rcL 4 tRc v nd.l,Res.star ((poolL ms).set j resNil)] w S:=fun v e w S h=>by rw[←e];exact pool_split hj w S h
   have hoc:∀(a:Rcd),∀u∈rcL a,u.oneCell'=true:=fun a u hu=>by
    simp only[rcL,List.mem_cons,List.not_mem_nil,or_false] at hu
    rcases hu with rfl|rfl|rfl|rfl<;>rfl
   have hput:putM bk (f+1) ⟨En ns,[]⟩ i r=if bk<nd.l.length+1∧nd.c.l<16 then partM (putM bk f) ⟨(En ms).set j { nd.er with many:=IntKind.i64.wrap (nd.many+1),l:=nd.l++[r] },[]⟩ j else ⟨(En ms).set j { nd.er with many:=IntKind.i64.wrap (nd.many+1),l:=nd.l++[r] },[]⟩:=by
    simp only[putM,←hd,e1]
    rfl
   rw[hput]
   have hroom:16 - nd.c.l≤roomI nd0:=by
    have e3:nd.er.c=nd.c:=rfl
    have e4:nd0.er.split=nd0.split:=rfl
    rw[he0,e3] at d3 d4
    rw[e4] at d4
    unfold roomI
    split
    ·rename_i hs0
     have:=d4 hs0
     omega
    ·omega
   have w1:PWf bk (·=j) (⟨En ms,[]⟩:PS):=⟨d5.cell,d5.kids,fun j q hq _ hs hl=>d5.few j q hq id hs hl,d5.free,d5.fnd⟩
   have w2:=w1.turn (m:={ nd.er with many:=IntKind.i64.wrap (nd.many+1),l:=nd.l++[r] }) e1 ⟨rfl,rfl,rfl,rfl,rfl,rfl⟩ (fun hx=>absurd rfl hx)
   have hll:(nd.l++[r]).length=nd.l.length+1:=by simp
   have hfew:nd.c.l<16→nd.l.length≤bk:=fun h=>d5.few j nd.er e1 id d2 h
   have hele:nd.er.l.length=nd.l.length:=rfl
   have ht3:∀X:PN,X.l.length=nd.l.length+1→tot ((En ms).set j X)≤2000000000:=fun X hX=>by have:=tot_set X e1;rw[hX,hele] at this;omega
   rcases hvm j nd hj with ⟨hv0,hl0⟩|⟨A0,c0,hv0⟩
   ·repeat' ((conv=>whnf);first|with_reducible apply brP_of<;>intro _|refine WpS.drawn ev_ok rfl rfl ?_|with_reducible refine And.intro (AgP.mk ⟨_,rfl,rfl⟩) ?_|refine IdxP.of (k:=j) rfl hjn ?_|refine RowP.fld (j:=7) pnC_len hj rfl rfl ?_|refine OpP.rowFld (j:=7) (x:={ nd with many:=IntKind.i64.wrap (nd.many+1) }) pnC_len hj rfl rfl rfl rfl rfl rfl rfl rfl rfl rfl rfl rfl ?_|refine RowP.fld (j:=9) (u:=nilV) pnC_len hj1 rfl (congrArg some hv0) ?_|refine And.intro (AgP.fld (j:=9) (u:=nilV) pnC_len hj1 rfl rfl rfl rfl rfl rfl rfl (congrArg some hv0) rfl rfl) ?_|(refine AppP.om (OpM.appL ev_ok app_rc rcL_len (by decide) hoc (i:=3) (y:=r) (l:=nd.l) (v:=nilV) (R':=fun v'=>poolR (ms.set j { nd with many:=IntKind.i64.wrap (nd.many+1),l:=nd.l++[r],v:=v' })) rfl rfl rfl rfl rfl rfl rfl (happ _ hv0) hjn' (by omega) ?_);intro A c))
    have hj2:(ms.set j { nd with many:=IntKind.i64.wrap (nd.many+1),l:=nd.l++[r],v:=.slice (some A) (nd.l.length+1) c })[j]?=some { nd with many:=IntKind.i64.wrap (nd.many+1),l:=nd.l++[r],v:=.slice (some A) (nd.l.length+1) c }:=get_set hj
    repeat' ((conv=>whnf);first|with_reducible apply brP_of<;>intro _|refine WpS.drawn ev_ok rfl rfl ?_|with_reducible refine And.intro (AgP.mk ⟨_,rfl,rfl⟩) ?_|(refine OpP.rowFld (j:=9) (x:={ nd with many:=IntKind.i64.wrap (nd.many+1),l:=nd.l++[r],v:=.slice (some A) (nd.l.length+1) c }) pnC_len hj1 rfl rfl rfl rfl rfl rfl rfl rfl rfl rfl rfl rfl ?_;rw[List.set_set])|refine RowP.fld (j:=9) (u:=.slice (some A) (nd.l.length+1) c) pnC_len hj2 rfl rfl ?_|refine RowP.fld (j:=0) pnC_len hj2 rfl rfl ?_|refine And.intro (AgP.fld (j:=9) (u:=.slice (some A) (nd.l.length+1) c) pnC_len hj2 rfl rfl rfl rfl rfl rfl rfl rfl rfl rfl) ?_|refine And.intro (AgP.fld (j:=0) pnC_len hj2 rfl rfl rfl rfl rfl rfl rfl rfl rfl rfl) ?_)
    all_goals (try conv=>whnf)
    ·rename_i h1 h2
     have h1:=of_decide_eq_true h1
     have h2:nd.c.l<16:=of_decide_eq_true h2
     have hN:(ms.set j { nd with many:=IntKind.i64.wrap (nd.many+1),l:=nd.l++[r],v:=.slice (some A) (nd.l.length+1) c }).length=n:=by simp[hm]
     rw[if_pos (by omega)]
     refine (hpart _ n j { nd with many:=IntKind.i64.wrap (nd.many+1),l:=nd.l++[r],v:=.slice (some A) (nd.l.length+1) c } B hN hj2 (by rw[En_set];exact w2) d2 h2 (by show (nd.l++[r]).length≤bk+1;have:=hfew h2;omega) (by show nd.l++[r]≠[];simp) (by show 16 - nd.c.l≤f;omega) (by omega) (by show (n:Int)+4 * (16 - nd.c.l)≤2000000000;omega) (by rw[En_set];exact ht3 _ hll)).use [0,1,2,3,4] rfl rfl ⟨⟨_,rfl,rfl⟩,⟨_,rfl,rfl⟩,⟨_,rfl,rfl⟩,⟨_,rfl,kp⟩,⟨_,rfl,kp⟩,tU⟩ ?_
     rw[En_set]
     rintro _ _ ⟨rfl,ns',e5,e6,rfl|rfl⟩
     ·refine ⟨[],?_⟩
      conv=>whnf
      refine ⟨[],?_⟩
      conv=>whnf
      exact ⟨rfl,ns',e5,e6,.inl rfl⟩
     ·refine ⟨[5],?_⟩
      conv=>whnf
      refine ⟨[7],?_⟩
      conv=>whnf
      exact ⟨rfl,ns',e5,e6,.inr rfl⟩
    all_goals
     rw[if_neg (fun hc=>by simp_all<;>omega)]
     refine ⟨[],?_⟩
     conv=>whnf
     exact ⟨rfl,ms.set j { nd with many:=IntKind.i64.wrap (nd.many+1),l:=nd.l++[r],v:=.slice (some A) (nd.l.length+1) c },En_set _,rfl,.inl (by rw[show (ms.set j { nd with many:=IntKind.i64.wrap (nd.many+1),l:=nd.l++[r],v:=.slice (some A) (nd.l.length+1) c }).length=n by simp[hm]];rfl)⟩
   ·repeat' ((conv=>whnf);first|with_reducible apply brP_of<;>intro _|refine WpS.drawn ev_ok rfl rfl ?_|with_reducible refine And.intro (AgP.mk ⟨_,rfl,rfl⟩) ?_|refine IdxP.of (k:=j) rfl hjn ?_|refine RowP.fld (j:=7) pnC_len hj rfl rfl ?_|refine OpP.rowFld (j:=7) (x:={ nd with many:=IntKind.i64.wrap (nd.many+1) }) pnC_len hj rfl rfl rfl rfl rfl rfl rfl rfl rfl rfl rfl rfl ?_|refine RowP.fld (j:=9) (u:=.slice (some A0) nd.l.length c0) pnC_len hj1 rfl (congrArg some hv0) ?_|refine And.intro (AgP.fld (j:=9) (u:=.slice (some A0) nd.l.length c0) pnC_len hj1 rfl rfl rfl rfl rfl rfl rfl (congrArg some hv0) rfl rfl) ?_|(refine OpP.om (OpM.appL ev_ok app_rc rcL_len (by decide) hoc (i:=3) (y:=r) (l:=nd.l) (v:=.slice (some A0) nd.l.length c0) (R':=fun v'=>poolR (ms.set j { nd with many:=IntKind.i64.wrap (nd.many+1),l:=nd.l++[r],v:=v' })) rfl rfl rfl rfl rfl rfl rfl (happ _ hv0) hjn' (by omega) ?_);intro A c))
    have hj2:(ms.set j { nd with many:=IntKind.i64.wrap (nd.many+1),l:=nd.l++[r],v:=.slice (some A) (nd.l.length+1) c })[j]?=some { nd with many:=IntKind.i64.wrap (nd.many+1),l:=nd.l++[r],v:=.slice (some A) (nd.l.length+1) c }:=get_set hj
    repeat' ((conv=>whnf);first|with_reducible apply brP_of<;>intro _|refine WpS.drawn ev_ok rfl rfl ?_|with_reducible refine And.intro (AgP.mk ⟨_,rfl,rfl⟩) ?_|(refine OpP.rowFld (j:=9) (x:={ nd with many:=IntKind.i64.wrap (nd.many+1),l:=nd.l++[r],v:=.slice (some A) (nd.l.length+1) c }) pnC_len hj1 rfl rfl rfl rfl rfl rfl rfl rfl rfl rfl rfl rfl ?_;rw[List.set_set])|refine RowP.fld (j:=9) (u:=.slice (some A) (nd.l.length+1) c) pnC_len hj2 rfl rfl ?_|refine RowP.fld (j:=0) pnC_len hj2 rfl rfl ?_|refine And.intro (AgP.fld (j:=9) (u:=.slice (some A) (nd.l.length+1) c) pnC_len hj2 rfl rfl rfl rfl rfl rfl rfl rfl rfl rfl) ?_|refine And.intro (AgP.fld (j:=0) pnC_len hj2 rfl rfl rfl rfl rfl rfl rfl rfl rfl rfl) ?_)
    all_goals (try conv=>whnf)
    ·rename_i h1 h2
     have h1:=of_decide_eq_true h1
     have h2:nd.c.l<16:=of_decide_eq_true h2
     have hN:(ms.set j { nd with many:=IntKind.i64.wrap (nd.many+1),l:=nd.l++[r],v:=.slice (some A) (nd.l.length+1) c }).length=n:=by simp[hm]
     rw[if_pos (by omega)]
     refine (hpart _ n j { nd with many:=IntKind.i64.wrap (nd.many+1),l:=nd.l++[r],v:=.slice (some A) (nd.l.length+1) c } B hN hj2 (by rw[En_set];exact w2) d2 h2 (by show (nd.l++[r]).length≤bk+1;have:=hfew h2;omega) (by show nd.l++[r]≠[];simp) (by show 16 - nd.c.l≤f;omega) (by omega) (by show (n:Int)+4 * (16 - nd.c.l)≤2000000000;omega) (by rw[En_set];exact ht3 _ hll)).use [0,1,2,3,4] rfl rfl ⟨⟨_,rfl,rfl⟩,⟨_,rfl,rfl⟩,⟨_,rfl,rfl⟩,⟨_,rfl,kp⟩,⟨_,rfl,kp⟩,tU⟩ ?_
     rw[En_set]
     rintro _ _ ⟨rfl,ns',e5,e6,rfl|rfl⟩
     ·refine ⟨[],?_⟩
      conv=>whnf
      refine ⟨[],?_⟩
      conv=>whnf
      exact ⟨rfl,ns',e5,e6,.inl rfl⟩
     ·refine ⟨[5],?_⟩
      conv=>whnf
      refine ⟨[7],?_⟩
      conv=>whnf
      exact ⟨rfl,ns',e5,e6,.inr rfl⟩
    all_goals
     rw[if_neg (fun hc=>by simp_all<;>omega)]
     refine ⟨[],?_⟩
     conv=>whnf
     exact ⟨rfl,ms.set j { nd with many:=IntKind.i64.wrap (nd.many+1),l:=nd.l++[r],v:=.slice (some A) (nd.l.length+1) c },En_set _,rfl,.inl (by rw[show (ms.set j { nd with many:=IntKind.i64.wrap (nd.many+1),l:=nd.l++[r],v:=.slice (some A) (nd.l.length+1) c }).length=n by simp[hm]];rfl)⟩
theorem part_step{bk f:Nat}(hput:PutC bk f):PartC bk f:=by
 intro ns n i nd B hn hi hw hs hl hk hne hf hf1 hlen htot
 have hcr:nd.c.right=true:=hw.cell i nd.er (En_get hi)
 have hcb:=Cel.bd hcr
 have hin:i<n:=by have:=get_lt hi;omega
 have hch:∀j:Int,0≤j→j≤3→(nd.c.right&&decide (nd.c.l≠16∧0≤j∧j≤3))=true:=fun j h0 h3=>by rw[hcr,decide_eq_true ⟨by omega,h0,h3⟩];rfl
 refine CallS.use (args0:=[.ptr 0 0,iA i]) (H0:=ptH bk ns n B .nil) (K0:=fun v H'=>∃ks,useK [0,1,2,3,4] ks (ptH bk ns n B .nil) H' v (PtPost bk B (partM (putM bk f) ⟨En ns,[]⟩ i))) ?_ [0,1,2,3,4] rfl rfl ⟨⟨_,rfl,rfl⟩,⟨_,rfl,rfl⟩,⟨_,rfl,rfl⟩,⟨_,rfl,kp⟩,⟨_,rfl,kp⟩,tU⟩ (fun v H' h=>h)
 refine CallS.know 3 rfl pool_vok fun hvk=>?_
 obtain ⟨A,c0,hv⟩:∃a c,nd.v=.slice (some a) nd.l.length c:=(hvk i nd hi).resolve_left fun h=>hne h.2
 refine fn_ok ev_ok rfl ?_
 repeat' ((conv=>whnf);first|with_reducible apply brP_of<;>intro _|refine WpS.drawn ev_ok rfl rfl ?_|with_reducible refine And.intro (AgP.mk ⟨_,rfl,rfl⟩) ?_|refine IdxP.of (k:=i) rfl hin ?_|refine RowP.fld (j:=9) (u:=.slice (some A) nd.l.length c0) pnC_len hi rfl (congrArg some hv) ?_|refine RowP.flds (j:=0) pnC_len hi rfl rfl rfl ?_|refine And.intro (AgP.fld (j:=9) (u:=.slice (some A) nd.l.length c0) pnC_len hi rfl rfl rfl rfl rfl rfl rfl (congrArg some hv) rfl rfl) ?_|refine And.intro (AgP.flds (j:=0) pnC_len hi rfl rfl rfl rfl rfl rfl rfl rfl rfl rfl rfl rfl) ?_)
 all_goals (try conv=>whnf)
 refine RdS.loop 5 ?_
 refine RdS.step ev_ok rfl ?_
 repeat' ((conv=>whnf);first|with_reducible apply brP_of<;>intro _|refine WpS.drawn ev_ok rfl rfl ?_|with_reducible refine And.intro (AgP.mk ⟨_,rfl,rfl⟩) ?_|(refine cchild (i:=0) ?_;rw[hch 0 (by omega) (by omega)])|(refine (ptleaf (ns:=ns) (n:=n+0) (B:=B) (c:=nd.c.child 0) (by simp[hn]) (by omega)).use [0,1,2,3,4] rfl rfl ⟨⟨_,rfl,rfl⟩,⟨_,rfl,rfl⟩,⟨_,rfl,rfl⟩,⟨_,rfl,kp⟩,⟨_,rfl,kp⟩,tU⟩ ?_;rintro _ _ ⟨rfl,G1,G2,G3,rfl⟩;refine ⟨[8],?_⟩)|refine IdxP.of (k:=0) rfl (by omega) ?_)
 all_goals (try conv=>whnf)
 refine RdS.sub [0,1,2,3,4,5,6,8] (l:=[(0,.ptr 0 0),(1,iA i),(4,.lit (.slice (some A) nd.l.length c0)),(5,.ptr 5 0),(6,.ptr 6 0),(29,iA 1)]) (H0:=[.cells [iA bk,.slice 7 0 (n+1) (.grown 10),.lit (.slice none 0 0),.map 2] tPT,.dead,.mrow (mE iK rcC B),.res (poolR ns),.res resNil,.cells [iA nd.c.l,iA nd.c.x,iA nd.c.y] 232,.cells [iA (n:Nat),iA 0,iA 0,iA 0] 424,.row ((ns++[PN.leaf (nd.c.child 0)]).flatMap pnC) tPN]) ⟨rfl,⟨⟨rfl,rfl⟩,⟨rfl,rfl⟩,⟨rfl,rfl⟩,⟨rfl,rfl⟩,⟨rfl,rfl⟩,⟨rfl,subInt rfl (by decide)⟩,tU⟩,⟨⟨_,rfl,rfl⟩,⟨_,rfl,rfl⟩,⟨_,rfl,rfl⟩,⟨_,rfl,kp⟩,⟨_,rfl,kp⟩,⟨_,rfl,rfl⟩,⟨_,rfl,rfl⟩,⟨_,rfl,rfl⟩,tU⟩⟩ ?_
 refine RdS.step ev_ok rfl ?_
 repeat' ((conv=>whnf);first|with_reducible apply brP_of<;>intro _|refine WpS.drawn ev_ok rfl rfl ?_|with_reducible refine And.intro (AgP.mk ⟨_,rfl,rfl⟩) ?_|(refine cchild (i:=1) ?_;rw[hch 1 (by omega) (by omega)])|(refine (ptleaf (ns:=(ns++[PN.leaf (nd.c.child 0)])) (n:=n+1) (B:=B) (c:=nd.c.child 1) (by simp[hn]) (by omega)).use [0,7,2,3,4] rfl rfl ⟨⟨_,rfl,rfl⟩,⟨_,rfl,rfl⟩,⟨_,rfl,rfl⟩,⟨_,rfl,fun w S h=>pool_leaf w S h⟩,⟨_,rfl,kp⟩,tU⟩ ?_;rintro _ _ ⟨rfl,G1,G2,G3,rfl⟩;refine ⟨[8],?_⟩)|refine IdxP.of (k:=1) rfl (by omega) ?_)
 all_goals (try conv=>whnf)
 refine RdS.sub [0,1,2,3,4,5,6,9] (l:=[(0,.ptr 0 0),(1,iA i),(4,.lit (.slice (some A) nd.l.length c0)),(5,.ptr 5 0),(6,.ptr 6 0),(29,iA 2)]) (H0:=[.cells [iA bk,.slice 7 0 (n+2) (.grown 10),.lit (.slice none 0 0),.map 2] tPT,.dead,.mrow (mE iK rcC B),.res (poolR (ns++[PN.leaf (nd.c.child 0)])),.res resNil,.cells [iA nd.c.l,iA nd.c.x,iA nd.c.y] 232,.cells [iA (n:Nat),iA ((n+1:Nat):Int),iA 0,iA 0] 424,.row (((ns++[PN.leaf (nd.c.child 0)])++[PN.leaf (nd.c.child 1)]).flatMap pnC) tPN]) ⟨rfl,⟨⟨rfl,rfl⟩,⟨rfl,rfl⟩,⟨rfl,rfl⟩,⟨rfl,rfl⟩,⟨rfl,rfl⟩,⟨rfl,subInt rfl (by decide)⟩,tU⟩,⟨⟨_,rfl,rfl⟩,⟨_,rfl,rfl⟩,⟨_,rfl,rfl⟩,⟨_,rfl,kp⟩,⟨_,rfl,kp⟩,⟨_,rfl,rfl⟩,⟨_,rfl,rfl⟩,⟨_,rfl,rfl⟩,tU⟩⟩ ?_
 refine RdS.step ev_ok rfl ?_
 repeat' ((conv=>whnf);first|with_reducible apply brP_of<;>intro _|refine WpS.drawn ev_ok rfl rfl ?_|with_reducible refine And.intro (AgP.mk ⟨_,rfl,rfl⟩) ?_|(refine cchild (i:=2) ?_;rw[hch 2 (by omega) (by omega)])|(refine (ptleaf (ns:=((ns++[PN.leaf (nd.c.child 0)])++[PN.leaf (nd.c.child 1)])) (n:=n+2) (B:=B) (c:=nd.c.child 2) (by simp[hn]) (by omega)).use [0,7,2,3,4] rfl rfl ⟨⟨_,rfl,rfl⟩,⟨_,rfl,rfl⟩,⟨_,rfl,rfl⟩,⟨_,rfl,fun w S h=>pool_leaf w S h⟩,⟨_,rfl,kp⟩,tU⟩ ?_;rintro _ _ ⟨rfl,G1,G2,G3,rfl⟩;refine ⟨[8],?_⟩)|refine IdxP.of (k:=2) rfl (by omega) ?_)
 all_goals (try conv=>whnf)
 refine RdS.sub [0,1,2,3,4,5,6,9] (l:=[(0,.ptr 0 0),(1,iA i),(4,.lit (.slice (some A) nd.l.length c0)),(5,.ptr 5 0),(6,.ptr 6 0),(29,iA 3)]) (H0:=[.cells [iA bk,.slice 7 0 (n+3) (.grown 10),.lit (.slice none 0 0),.map 2] tPT,.dead,.mrow (mE iK rcC B),.res (poolR ((ns++[PN.leaf (nd.c.child 0)])++[PN.leaf (nd.c.child 1)])),.res resNil,.cells [iA nd.c.l,iA nd.c.x,iA nd.c.y] 232,.cells [iA (n:Nat),iA ((n+1:Nat):Int),iA ((n+2:Nat):Int),iA 0] 424,.row ((((ns++[PN.leaf (nd.c.child 0)])++[PN.leaf (nd.c.child 1)])++[PN.leaf (nd.c.child 2)]).flatMap pnC) tPN]) ⟨rfl,⟨⟨rfl,rfl⟩,⟨rfl,rfl⟩,⟨rfl,rfl⟩,⟨rfl,rfl⟩,⟨rfl,rfl⟩,⟨rfl,subInt rfl (by decide)⟩,tU⟩,⟨⟨_,rfl,rfl⟩,⟨_,rfl,rfl⟩,⟨_,rfl,rfl⟩,⟨_,rfl,kp⟩,⟨_,rfl,kp⟩,⟨_,rfl,rfl⟩,⟨_,rfl,rfl⟩,⟨_,rfl,rfl⟩,tU⟩⟩ ?_
 refine RdS.step ev_ok rfl ?_
 repeat' ((conv=>whnf);first|with_reducible apply brP_of<;>intro _|refine WpS.drawn ev_ok rfl rfl ?_|with_reducible refine And.intro (AgP.mk ⟨_,rfl,rfl⟩) ?_|(refine cchild (i:=3) ?_;rw[hch 3 (by omega) (by omega)])|(refine (ptleaf (ns:=(((ns++[PN.leaf (nd.c.child 0)])++[PN.leaf (nd.c.child 1)])++[PN.leaf (nd.c.child 2)])) (n:=n+3) (B:=B) (c:=nd.c.child 3) (by simp[hn]) (by omega)).use [0,7,2,3,4] rfl rfl ⟨⟨_,rfl,rfl⟩,⟨_,rfl,rfl⟩,⟨_,rfl,rfl⟩,⟨_,rfl,fun w S h=>pool_leaf w S h⟩,⟨_,rfl,kp⟩,tU⟩ ?_;rintro _ _ ⟨rfl,G1,G2,G3,rfl⟩;refine ⟨[8],?_⟩)|refine IdxP.of (k:=3) rfl (by omega) ?_)
 all_goals (try conv=>whnf)
 refine RdS.sub [0,1,2,3,4,5,6,9] (l:=[(0,.ptr 0 0),(1,iA i),(4,.lit (.slice (some A) nd.l.length c0)),(5,.ptr 5 0),(6,.ptr 6 0),(29,iA 4)]) (H0:=[.cells [iA bk,.slice 7 0 (n+4) (.grown 10),.lit (.slice none 0 0),.map 2] tPT,.dead,.mrow (mE iK rcC B),.res (poolR (((ns++[PN.leaf (nd.c.child 0)])++[PN.leaf (nd.c.child 1)])++[PN.leaf (nd.c.child 2)])),.res resNil,.cells [iA nd.c.l,iA nd.c.x,iA nd.c.y] 232,.cells [iA (n:Nat),iA ((n+1:Nat):Int),iA ((n+2:Nat):Int),iA ((n+3:Nat):Int)] 424,.row (((((ns++[PN.leaf (nd.c.child 0)])++[PN.leaf (nd.c.child 1)])++[PN.leaf (nd.c.child 2)])++[PN.leaf (nd.c.child 3)]).flatMap pnC) tPN]) ⟨rfl,⟨⟨rfl,rfl⟩,⟨rfl,rfl⟩,⟨rfl,rfl⟩,⟨rfl,rfl⟩,⟨rfl,rfl⟩,⟨rfl,subInt rfl (by decide)⟩,tU⟩,⟨⟨_,rfl,rfl⟩,⟨_,rfl,rfl⟩,⟨_,rfl,rfl⟩,⟨_,rfl,kp⟩,⟨_,rfl,kp⟩,⟨_,rfl,rfl⟩,⟨_,rfl,rfl⟩,⟨_,rfl,rfl⟩,tU⟩⟩ ?_
 have hi4:((((ns++[PN.leaf (nd.c.child 0)])++[PN.leaf (nd.c.child 1)])++[PN.leaf (nd.c.child 2)])++[PN.leaf (nd.c.child 3)])[i]?=some nd:=by
  rw[List.append_assoc,List.append_assoc,List.append_assoc,List.getElem?_append_left (get_lt hi)]
  exact hi
 obtain ⟨ms,hms⟩:∃ms,ms=((((ns++[PN.leaf (nd.c.child 0)])++[PN.leaf (nd.c.child 1)])++[PN.leaf (nd.c.child 2)])++[PN.leaf (nd.c.child 3)]):=⟨_,rfl⟩
 have hpl:∀w S,(poolR (((ns++[PN.leaf (nd.c.child 0)])++[PN.leaf (nd.c.child 1)])++[PN.leaf (nd.c.child 2)])).at_ w S→(poolR ms).at_ w S:=fun w S h=>by rw[hms];exact pool_leaf w S h
 rw[←hms] at hi4 ⊢
 have h1:(ms.set i { nd with v:=nilV })[i]?=some { nd with v:=nilV }:=get_set hi4
 have h2:(ms.set i { nd with v:=nilV,split:=true })[i]?=some { nd with v:=nilV,split:=true }:=get_set hi4
 have h3:(ms.set i { nd with v:=nilV,split:=true,k0:=(n:Nat),k1:=((n+1:Nat):Int),k2:=((n+2:Nat):Int),k3:=((n+3:Nat):Int) })[i]?=some { nd with v:=nilV,split:=true,k0:=(n:Nat),k1:=((n+1:Nat):Int),k2:=((n+2:Nat):Int),k3:=((n+3:Nat):Int) }:=get_set hi4
 have hml:ms.length=n+4:=by rw[hms];simp[hn]
 refine RdS.step ev_ok rfl ?_
 repeat' ((conv=>whnf);first|with_reducible apply brP_of<;>intro _|refine WpS.drawn ev_ok rfl rfl ?_|with_reducible refine And.intro (AgP.mk ⟨_,rfl,rfl⟩) ?_|refine IdxP.of (k:=i) rfl (show i<n+4 by omega) ?_|(refine OpP.rowFld (j:=9) (x:={ nd with v:=nilV }) pnC_len hi4 rfl rfl rfl rfl rfl rfl rfl rfl rfl rfl rfl rfl ?_)|(refine OpP.rowFld (j:=8) (x:={ nd with v:=nilV,split:=true }) pnC_len h1 rfl rfl rfl rfl rfl rfl rfl rfl rfl rfl rfl rfl ?_;rw[List.set_set])|(refine OpP.rowFld (j:=3) (x:={ nd with v:=nilV,split:=true,k0:=(n:Nat),k1:=((n+1:Nat):Int),k2:=((n+2:Nat):Int),k3:=((n+3:Nat):Int) }) pnC_len h2 rfl rfl rfl rfl rfl rfl rfl rfl rfl rfl rfl rfl ?_;rw[List.set_set])|(refine OpP.rowFld (j:=7) (x:={ nd with v:=nilV,split:=true,k0:=(n:Nat),k1:=((n+1:Nat):Int),k2:=((n+2:Nat):Int),k3:=((n+3:Nat):Int),many:=0,l:=[] }) pnC_len h3 rfl rfl rfl rfl rfl rfl rfl rfl rfl rfl rfl rfl ?_;rw[List.set_set]))
 all_goals (try conv=>whnf)
 obtain ⟨p1,p2,p3,p4,p5⟩:=part_start hw (En_get hi) (by simp) hs hl
 rw[partM_eq (f:=putM bk f) (s:=⟨En ns,[]⟩) (En_get hi)]
 have hps:partS ⟨En ns,[]⟩ i nd.er=⟨En (ms.set i { nd with v:=nilV,split:=true,k0:=(n:Nat),k1:=((n+1:Nat):Int),k2:=((n+2:Nat):Int),k3:=((n+3:Nat):Int),many:=0,l:=[] }),[]⟩:=by
  rw[hms]
  simp[partS,leafM,En,PN.leaf,PN.er,hn]
 rw[hps] at p1 p2 p3 p4 ⊢
 refine WpS.part (poolR (ms.set i { nd with v:=nilV,split:=true,k0:=(n:Nat),k1:=((n+1:Nat):Int),k2:=((n+2:Nat):Int),k3:=((n+3:Nat):Int),many:=0,l:=[] })) (OwnR rcL 4 tRc nd.v nd.l) 3 rfl (fun w S h=>pool_part hi4 rfl rfl w S (hpl w S h)) rfl ?_
 refine WpS.know 8 rfl (q:=RdV Tryz.prog (OwnR rcL 4 tRc nd.v nd.l) tRc 4 (some A) (fun r=>.agg (rcL r).toArray) nd.l) (fun w S h=>RdV.sl (c:=c0) ev_ok rcL_len ⟨_,rfl,rfl,rfl⟩ (fun w S h=>⟨_,by rw[←hv];exact h.1.sl⟩) ⟨w,S,h⟩) fun hrv=>?_
 refine loopP ev_ok rfl (fun s:Nat×List PN=>[(0,.ptr 0 0),(1,iA i),(63,.lit (.slice (some A) nd.l.length c0)),(64,iA nd.l.length),(65,iA (s.1:Nat))]) (fun s=>ptHB bk s.2 s.2.length B .nil++[.res (OwnR rcL 4 tRc nd.v nd.l)])
  (fun s=>s.1≤nd.l.length∧PWf bk noX ⟨En s.2,[]⟩∧(∃m,s.2[i]?=some m∧m.c=nd.c∧m.split=true)∧(s.1≤bk→Fresh ⟨En s.2,[]⟩ i nd.c s.1∧s.2.length≤n+4)∧tot (En s.2)+(nd.l.length - s.1)≤tot (En ns)∧(nd.l.drop s.1).foldl (fun s r=>putM bk f s i r) ⟨En s.2,[]⟩=nd.l.foldl (fun s r=>putM bk f s i r) ⟨En (ms.set i { nd with v:=nilV,split:=true,k0:=(n:Nat),k1:=((n+1:Nat):Int),k2:=((n+2:Nat):Int),k3:=((n+3:Nat):Int),many:=0,l:=[] }),[]⟩)
  (fun s=>nd.l.length - s.1) (0,ms.set i { nd with v:=nilV,split:=true,k0:=(n:Nat),k1:=((n+1:Nat):Int),k2:=((n+2:Nat):Int),k3:=((n+3:Nat):Int),many:=0,l:=[] }) ⟨Nat.zero_le _,p1,⟨_,get_set hi4,rfl,rfl⟩,fun _=>⟨p2,by simp[hml]⟩,by simp only[Nat.sub_zero];exact p4,rfl⟩ [0,1,2,3,4,7,8] ?_ ?_
 ·exact ⟨rfl,⟨⟨rfl,rfl⟩,⟨rfl,rfl⟩,⟨rfl,rfl⟩,⟨rfl,rfl⟩,⟨rfl,rfl⟩,tU⟩,⟨⟨_,rfl,by simp[hml,ObE,ptHB];rfl⟩,⟨_,rfl,rfl⟩,⟨_,rfl,rfl⟩,⟨_,rfl,kp⟩,⟨_,rfl,kp⟩,⟨_,rfl,rfl⟩,⟨_,rfl,kp⟩,tU⟩⟩
 ·rintro ⟨q,ns'⟩ ⟨q0,q1,⟨m,q2,q3,q4⟩,q5,q6,q7⟩
  simp only[] at q0 q1 q2 q5 q6 q7
  by_cases hq:q<nd.l.length
  ·obtain ⟨hF,hlen2⟩:=q5 (by omega)
   have hroom:roomI m=15 - nd.c.l:=by unfold roomI;rw[if_pos q4,q3]
   have hok:=pput_ok f ⟨En ns',[]⟩ i m.er nd.l[q] q1 (En_get q2) (by simp) (by show 1+roomI m≤f;rw[hroom];omega) hf1
   have hdr:nd.l.drop q=nd.l[q]::nd.l.drop (q+1):=List.drop_eq_getElem_cons hq
   rw[hdr,List.foldl_cons] at q7
   conv=>whnf
   refine brP_of (fun _=>?_) (noF hq)
   conv=>whnf
   refine OpP.idxL ev_ok rfl rfl rfl rfl rfl hq ?_
   conv=>whnf
   obtain ⟨A',hA',hrd⟩:=hrv.at hq
   cases hA'
   refine OpP.loadR (i:=6) (v:=.agg (rcdA nd.l[q])) rfl (fun w S hR=>hrd w S hR _ hq) rfl rfl ?_
   have hql:nd.er.l.length≤tot (En ns):=tot_le (En_get hi)
   have hql:nd.l.length≤tot (En ns):=hql
   have hqw:IntKind.i64.wrap ((q:Int)+1)=((q+1:Nat):Int):=wrap_in (by omega) (by omega)
   have hdrl:(nd.l.drop q).length=nd.l.length - q:=List.length_drop
   repeat' ((conv=>whnf);first|with_reducible apply brP_of<;>intro _|refine WpS.drawn ev_ok rfl rfl ?_|with_reducible refine And.intro (AgP.mk ⟨_,rfl,rfl⟩) ?_|(refine (hput ns' ns'.length i m B nd.l[q] rfl q2 q1 (by rw[hroom];omega) hf1 (by rw[hroom];omega) (by omega)).use [0,5,2,3,4] rfl rfl ⟨⟨_,rfl,rfl⟩,⟨_,rfl,rfl⟩,⟨_,rfl,rfl⟩,⟨_,rfl,kp⟩,⟨_,rfl,kp⟩,tU⟩ ?_;rintro _ _ ⟨rfl,ns2,e1,e2,hH⟩;rcases hH with rfl|rfl;refine ⟨[],?_⟩;rotate_left;refine ⟨[5],?_⟩))
   all_goals (try conv=>whnf)
   all_goals
    have heq:(⟨En ns2,[]⟩:PS)=putM bk f ⟨En ns',[]⟩ i nd.l[q]:=by
     cases hp:putM bk f ⟨En ns',[]⟩ i nd.l[q]
     rw[hp] at e1 e2
     simp only[] at e1 e2
     rw[e1,e2]
    rw[←heq] at hok q7
    obtain ⟨_,m2,k1,k2,k3⟩:=hok.keeps i m.er (En_get q2) (by simp)
    obtain ⟨m3,k4,rfl⟩:=En_some k1
    have k5:=hok.tot
    have J:q+1≤nd.l.length∧PWf bk noX ⟨En ns2,[]⟩∧(∃m,ns2[i]?=some m∧m.c=nd.c∧m.split=true)∧(q+1≤bk→Fresh ⟨En ns2,[]⟩ i nd.c (q+1)∧ns2.length≤n+4)∧tot (En ns2)+(nd.l.length - (q+1))≤tot (En ns)∧(nd.l.drop (q+1)).foldl (fun s r=>putM bk f s i r) ⟨En ns2,[]⟩=nd.l.foldl (fun s r=>putM bk f s i r) ⟨En (ms.set i { nd with v:=nilV,split:=true,k0:=(n:Nat),k1:=((n+1:Nat):Int),k2:=((n+2:Nat):Int),k3:=((n+3:Nat):Int),many:=0,l:=[] }),[]⟩:=by
     refine ⟨hq,hok.wf,⟨m3,k4,by rw[←q3];exact k2,k3 q4⟩,fun hb=>?_,by simp only[] at k5;omega,q7⟩
     obtain ⟨f',rfl⟩:∃g,f=g+1:=⟨f - 1,by omega⟩
     obtain ⟨g1,g2⟩:=put_small (f:=f') (r:=nd.l[q]) hF (show q<bk by omega)
     rw[←heq] at g1 g2
     simp only[En_len] at g2
     exact ⟨g1,by omega⟩
   ·exact ⟨(q+1,ns2),[0,1,2,3,4,8,6],⟨J,by show nd.l.length - (q+1)<nd.l.length - q;omega⟩,rfl,⟨⟨rfl,rfl⟩,⟨rfl,rfl⟩,⟨rfl,rfl⟩,⟨rfl,rfl⟩,⟨rfl,subInt rfl hqw⟩,tU⟩,⟨⟨_,rfl,rfl⟩,⟨_,rfl,rfl⟩,⟨_,rfl,rfl⟩,⟨_,rfl,kp⟩,⟨_,rfl,kp⟩,⟨_,rfl,rfl⟩,⟨_,rfl,kp⟩,tU⟩⟩
   ·exact ⟨(q+1,ns2),[0,1,2,3,4,5,6],⟨J,by show nd.l.length - (q+1)<nd.l.length - q;omega⟩,rfl,⟨⟨rfl,rfl⟩,⟨rfl,rfl⟩,⟨rfl,rfl⟩,⟨rfl,rfl⟩,⟨rfl,subInt rfl hqw⟩,tU⟩,⟨⟨_,rfl,rfl⟩,⟨_,rfl,rfl⟩,⟨_,rfl,rfl⟩,⟨_,rfl,kp⟩,⟨_,rfl,kp⟩,⟨_,rfl,rfl⟩,⟨_,rfl,kp⟩,tU⟩⟩
  ·obtain rfl:q=nd.l.length:=by omega
   rw[List.drop_length,List.foldl_nil] at q7
   conv=>whnf
   refine brP_of (noT hq) (fun _=>?_)
   conv=>whnf
   refine ⟨[5],?_⟩
   conv=>whnf
   exact ⟨rfl,ns',congrArg PS.ns q7,(congrArg PS.fr q7).symm,.inr rfl⟩
theorem put_all(bk:Nat):∀f,PutC bk f
 | 0=>fun _ _ _ _ _ _ _ _ _ _ h1=>absurd h1 (by omega)
 | f+1=>put_step (part_step (put_all bk f))
end Go.Proofs.YtmbdghclhpboaaaGreat
