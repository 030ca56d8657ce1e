/- Part of the proof: PtP Tok2 Tok3 Aud. Conditions: as each states. -/
import Derived.Test.YtmbdghclhpboaaaGreatPw21
set_option linter.all false
set_option maxRecDepth 100000
namespace Go.Proofs.YtmbdghclhpboaaaGreat
open Ev
structure PN where
 c:bY
 k0:Int
 k1:Int
 k2:Int
 k3:Int
 many:Int
 split:Bool
 l:List cw
 v:Value
def aO:Value:=.slice none 0 0
def PN.leaf(c:bY):PN:=⟨c,-1,-1,-1,-1,0,false,[],aO⟩
def PN.er(n:PN):PN:={ n with v:=aO }
def PN.rq(n:PN)(i:Int):Int:=if i=0 then n.k0 else if i=1 then n.k1 else if i=2 then n.k2 else n.k3
def PN.yb(n:PN)(r:cw):Int:=
 let d:bY:=if decide (0<=n.c.l+1/\n.c.l+1<=16)&&fits r.x r.y then vf r.x r.y (n.c.l+1) else ⟨0,0,0⟩
 d.x % 2+d.y % 2 * 2
structure PS where
 ns:List PN
 fr:List Int
def cS(s:PS)(c:bY):PS×Int:=match s.fr.getLast? with
 | some i=>(⟨s.ns.set i.toNat (.leaf c),s.fr.dropLast⟩,i)
 | none=>(⟨s.ns++[.leaf c],s.fr⟩,s.ns.length)
def fC:Nat->List PN->Nat->cw->List PN×Nat
 | 0,ns,i,_=>(ns,i)
 | f+1,ns,i,r=>match ns[i]? with
   | some n=>if n.split then fC f (ns.set i { n with many:=IntKind.i64.wrap (n.many+1) }) (n.rq (n.yb r)).toNat r else (ns,i)
   | none=>(ns,i)
def xP(f:PS->Nat->cw->PS)(s:PS)(i:Nat):PS:=match s.ns[i]? with
 | none=>s
 | some n=>
   let a:=cS s (n.c.child 0)
   let b:=cS a.1 (n.c.child 1)
   let c:=cS b.1 (n.c.child 2)
   let d:=cS c.1 (n.c.child 3)
   n.l.foldl (fun s r=>f s i r) ⟨d.1.ns.set i { n with k0:=a.2,k1:=b.2,k2:=c.2,k3:=d.2,many:=0,split:=true,l:=[],v:=aO },d.1.fr⟩
def gH(bk:Nat):Nat->PS->Nat->cw->PS
 | 0,s,_,_=>s
 | f+1,s,i,r=>
   let d:=fC 17 s.ns i r
   match d.1[d.2]? with
   | none=>⟨d.1,s.fr⟩
   | some n=>
     let s1:PS:=⟨d.1.set d.2 { n with many:=IntKind.i64.wrap (n.many+1),l:=n.l++[r] },s.fr⟩
     if bk<n.l.length+1/\n.c.l<16 then xP (gH bk f) s1 d.2 else s1
structure vF(s:PS)(n:PN):Prop where
 lt:n.c.l<16
 rq:∀j:Int,0<=j->j<=3->∃(k:Nat) (m:PN),n.rq j=(k:Int)/\s.ns[k]?=some m/\m.c=n.c.child j/\(k:Int)∉s.fr
structure nK(bk:Nat)(x:Nat->Prop)(s:PS):Prop where
 cell:∀(i:Nat) (n:PN),s.ns[i]?=some n->n.c.right=true
 kids:∀(i:Nat) (n:PN),s.ns[i]?=some n->n.split=true->vF s n
 I6:∀(i:Nat) (n:PN),s.ns[i]?=some n->¬x i->n.split=false->n.c.l<16->n.l.length<=bk
 free:∀x∈s.fr,∃k:Nat,x=(k:Int)/\k<s.ns.length
 LA:s.fr.Nodup
theorem mK(n:PN)(r:cw):0<=n.yb r/\n.yb r<=3:=by
 unfold PN.yb;simp only[];omega
theorem qa{c:bY}{j:Int}(h:c.right=true)(h1:c.l<16)(h0:0<=j)(h3:j<=3):(c.child j).right=true/\(c.child j).l=c.l+1:=by
 have hb:=bY.bd h;have hd:=of_decide_eq_true h;have e:c.child j=⟨c.l+1,2 * c.x+j % 2,2 * c.y+j / 2⟩:=by
  unfold bY.child;rw[if_pos (by simp[h];exact ⟨by omega,h0,h3⟩)]
 have hp:p2 (c.l+1)=2 * p2 c.l:=by
  unfold p2;rw[show (c.l+1).toNat=c.l.toNat+1 by omega,Int.pow_succ];omega
 rw[e];refine ⟨decide_eq_true ⟨by show 0<=c.l+1;omega,by show c.l+1<=16;omega,by show 0<=2 * c.x+j % 2;omega,by show 0<=2 * c.y+j / 2;omega,?_,?_⟩,rfl⟩
 ·show 2 * c.x+j % 2<p2 (c.l+1)
  rw[hp];omega
 ·show 2 * c.y+j / 2<p2 (c.l+1)
  rw[hp];omega
def PN.alike(n m:PN):Prop:=m.c=n.c/\m.split=n.split/\m.k0=n.k0/\m.k1=n.k1/\m.k2=n.k2/\m.k3=n.k3
theorem PN.alike.rq{n m:PN}(h:n.alike m)(j:Int):m.rq j=n.rq j:=by
 obtain ⟨_,_,h0,h1,h2,h3⟩:=h;unfold PN.rq;rw[h0,h1,h2,h3]
section
variable{bk:Nat}{x:Nat->Prop}{s:PS}{i:Nat}{n m:PN}
theorem ou{α:Type}{l:List α}{i j:Nat}{x y:α}(h:(l.set i x)[j]?=some y):(j=i/\y=x/\i<l.length)\/(j≠i/\l[j]?=some y):=by
 rw[List.getElem?_set] at h;by_cases e:i=j
 ·subst e;rw[if_pos rfl] at h;split at h
  ·cases h;exact .inl ⟨rfl,rfl,by assumption⟩
  ·cases h
 ·rw[if_neg e] at h;exact .inr ⟨Ne.symm e,h⟩
theorem nK.turn(h:nK bk x s)(hn:s.ns[i]?=some n)(ha:n.alike m)(hf:¬x i->m.split=false->m.c.l<16->m.l.length<=bk):nK bk x ⟨s.ns.set i m,s.fr⟩:=by
 have r9:=(List.getElem?_eq_some_iff.1 hn).1;have kk:∀q:PN,vF s q->vF ⟨s.ns.set i m,s.fr⟩ q:=fun q hq=>⟨hq.lt,fun j h0 h3=>by
  obtain ⟨k,y,h1,h2,h4,h5⟩:=hq.rq j h0 h3;by_cases e:i=k
  ·subst e;rw[h2] at hn;cases hn
   exact ⟨i,m,h1,by simp[r9],by rw[ha.1,h4],h5⟩
  ·exact ⟨k,y,h1,by simp only[];rw[List.getElem?_set,if_neg e];exact h2,h4,h5⟩⟩
 refine ⟨fun j q hq=>?_,fun j q hq hs=>?_,fun j q hq hj hs hl=>?_,fun x hx=>?_,h.LA⟩
 ·rcases ou hq with ⟨_,rfl,_⟩|⟨_,hq⟩
  ·rw[ha.1];exact h.cell i n hn
  ·exact h.cell j q hq
 ·rcases ou hq with ⟨_,rfl,_⟩|⟨_,hq⟩
  ·have h1:=h.kids i n hn (by rw[<-ha.2.1];exact hs);exact ⟨by rw[ha.1];exact h1.lt,fun j h0 h3=>by
    obtain ⟨k,x,h4⟩:=(kk n h1).rq j h0 h3;exact ⟨k,x,by rw[ha.rq,ha.1];exact h4⟩⟩
  ·exact kk q (h.kids j q hq hs)
 ·rcases ou hq with ⟨Y6,rfl,_⟩|⟨_,hq⟩
  ·exact hf (by rw[<-Y6];exact hj) hs hl
  ·exact h.I6 j q hq hj hs hl
 ·obtain ⟨k,h1,h2⟩:=h.free x hx;exact ⟨k,h1,by simpa using h2⟩
theorem pK{r:cw}:∀(f:Nat) {s:PS} {i:Nat} {n:PN},nK bk x s->s.ns[i]?=some n->(i:Int)∉s.fr->17 - n.c.l<=f ->
  ∃m,(fC f s.ns i r).1[(fC f s.ns i r).2]?=some m/\m.split=false/\n.c.l<=m.c.l/\(n.split=true->n.c.l<m.c.l)/\nK bk x ⟨(fC f s.ns i r).1,s.fr⟩/\(fC f s.ns i r).1.length=s.ns.length/\(((fC f s.ns i r).2:Nat):Int)∉s.fr /\
   (∀j:Nat,(fC f s.ns i r).1[j]?.map (fun q:PN=>(q.c,q.split,q.k0,q.k1,q.k2,q.k3,q.l))=s.ns[j]?.map (fun q:PN=>(q.c,q.split,q.k0,q.k1,q.k2,q.k3,q.l)))
 | 0,s,i,n,h,hn,_,hf=>by
   have:=(bY.bd (h.cell i n hn)).2.1;omega
 | f+1,s,i,n,h,hn,hi,hf=>by
   simp only[fC,hn];by_cases hs:n.split=true
   ·simp only[if_pos hs];have hk:=h.kids i n hn hs;have hw:=mK n r;obtain ⟨k,m,h1,h2,h3,h4⟩:=hk.rq (n.yb r) hw.1 hw.2;have hc:=qa (h.cell i n hn) hk.lt hw.1 hw.2;have h5:=h.turn (m:={ n with many:=IntKind.i64.wrap (n.many+1) }) hn ⟨rfl,rfl,rfl,rfl,rfl,rfl⟩ (fun _ hh=>by rw[hs] at hh;cases hh);have EL:k≠i:=fun e=>by
     rw[e,hn] at h2;cases h2
     rw[<-h3] at hc;omega
    rw[h1,Int.toNat_natCast];have h2':(s.ns.set i { n with many:=IntKind.i64.wrap (n.many+1) })[k]?=some m:=by rw[List.getElem?_set,if_neg (Ne.symm EL)];exact h2
    obtain ⟨q,g1,g2,g3,g4,g5,g6,g7,g8⟩:=pK (r:=r) f h5 h2' h4 (by rw[h3,hc.2];omega);rw[h3,hc.2] at g3;refine ⟨q,g1,g2,by omega,fun _=>by omega,g5,by rw[g6];simp,g7,fun j=>?_⟩;rw[g8 j];simp only[];rw[List.getElem?_set];split
    ·rename_i e;subst e;rw[hn];split
     ·rfl
     ·rename_i hl;exact absurd (List.getElem?_eq_some_iff.1 hn).1 hl
    ·rfl
   ·simp only[if_neg hs];exact ⟨n,hn,by simpa using hs,Int.le_refl _,fun h=>absurd h hs,h,tU,hi,fun _=>trivial⟩
theorem tv{c:bY}(h:nK bk x s)(hc:c.right=true):∃k:Nat,(cS s c).2=(k:Int)/\(cS s c).1.ns[k]?=some (.leaf c)/\(k:Int)∉(cS s c).1.fr/\nK bk x (cS s c).1/\(∀(j:Nat) (q:PN),s.ns[j]?=some q->(j:Int)∉s.fr->(cS s c).1.ns[j]?=some q/\j≠k)/\(∀x∈(cS s c).1.fr,x∈s.fr)/\s.ns.length<=(cS s c).1.ns.length/\(cS s c).1.ns.length<=s.ns.length+1:=by
 have key:∀(k:Nat) (s':PS),s'.ns[k]?=some (.leaf c)->(∀j:Nat,j≠k->∀q:PN,s'.ns[j]?=some q->s.ns[j]?=some q)->(∀(j:Nat) (q:PN),s.ns[j]?=some q->(j:Int)∉s.fr->s'.ns[j]?=some q)->(∀x∈s'.fr,x∈s.fr)->s.ns.length<=s'.ns.length->s'.fr.Nodup->nK bk x s':=by
  intro k s' h1 h2 h3 h4 h5 h6;refine ⟨fun j q hq=>?_,fun j q hq hs=>?_,fun j q hq hj hs hl=>?_,fun x hx=>?_,h6⟩
  ·by_cases e:j=k
   ·subst e;rw[h1] at hq;cases hq;exact hc
   ·exact h.cell j q (h2 j e q hq)
  ·by_cases e:j=k
   ·subst e;rw[h1] at hq;cases hq;cases hs
   ·have hk:=h.kids j q (h2 j e q hq) hs;refine ⟨hk.lt,fun a YR GJ=>?_⟩;obtain ⟨b,m,g1,g2,g3,g4⟩:=hk.rq a YR GJ;exact ⟨b,m,g1,h3 b m g2 g4,g3,fun hx=>g4 (h4 _ hx)⟩
  ·by_cases e:j=k
   ·subst e;rw[h1] at hq;cases hq;exact Nat.zero_le _
   ·exact h.I6 j q (h2 j e q hq) hj hs hl
  ·obtain ⟨b,g1,g2⟩:=h.free x (h4 x hx);exact ⟨b,g1,by omega⟩
 unfold cS;cases hl:s.fr.getLast? with
 | none=>
   simp only[];have EI:s.fr=[]:=List.getLast?_eq_none_iff.1 hl;have h3:∀(j:Nat) (q:PN),s.ns[j]?=some q->(s.ns++[PN.leaf c])[j]?=some q:=fun j q hq=>by
    rw[List.getElem?_append_left (List.getElem?_eq_some_iff.1 hq).1];exact hq
   refine ⟨s.ns.length,rfl,by simp,by rw[EI];simp,key s.ns.length _ (by simp) (fun j hj q hq=>?_) (fun j q hq _=>h3 j q hq) (fun x hx=>hx) (by simp) h.LA,fun j q hq _=>⟨h3 j q hq,fun e=>?_⟩,fun x hx=>hx,by simp,by simp⟩
   ·rcases Nat.lt_or_ge j s.ns.length with ah|hge
    ·simp only[] at hq;rw[List.getElem?_append_left ah] at hq;exact hq
    ·simp only[] at hq;have:=(List.getElem?_eq_some_iff.1 hq).1;simp at this;omega
   ·have:=(List.getElem?_eq_some_iff.1 hq).1;omega
 | some x=>
   simp only[];have hx:x∈s.fr:=List.mem_of_getLast? hl;obtain ⟨k,rfl,hk⟩:=h.free x hx;rw[Int.toNat_natCast];have cF:s.fr=s.fr.dropLast++[(k:Int)]:=by
    have aN:s.fr≠[]:=fun e=>by rw[e] at hx;simp at hx
    have:=List.dropLast_concat_getLast aN;rw[List.getLast?_eq_some_getLast aN] at hl;rw[Option.some.inj hl] at this;exact this.symm
   have mP:=h.LA;rw[cF,List.nodup_append] at mP;have Zf:(k:Int)∉s.fr.dropLast:=fun hm=>by
    have:=mP.2.2 _ hm (k:Int) (by simp);exact this rfl
   have mX:∀x∈s.fr.dropLast,x∈s.fr:=fun x hx=>List.dropLast_subset _ hx;have h3:∀(j:Nat) (q:PN),s.ns[j]?=some q->(j:Int)∉s.fr->(s.ns.set k (PN.leaf c))[j]?=some q/\j≠k:=fun j q hq hj=>by
    have:k≠j:=fun e=>hj (by rw[<-e];exact hx);exact ⟨by rw[List.getElem?_set,if_neg this];exact hq,Ne.symm this⟩
   refine ⟨k,rfl,by simp[hk],Zf,key k _ (by simp[hk]) (fun j hj q hq=>?_) (fun j q hq hj=>(h3 j q hq hj).1) mX (by simp) mP.1,h3,mX,by simp,by simp⟩;simp only[] at hq;rw[List.getElem?_set,if_neg (Ne.symm hj)] at hq;exact hq
end
def hU(ns:List PN):Nat:=(ns.map fun n=>n.l.length).sum
theorem IG(a b:List PN):hU (a++b)=hU a+hU b:=by unfold hU;rw[List.map_append,List.sum_append]
theorem mJ:∀{ns:List PN} {i:Nat} {n:PN} (m:PN),ns[i]?=some n->hU (ns.set i m)+n.l.length=hU ns+m.l.length
 | [],_,_,_,h=>by simp at h
 | x::ns,0,n,m,h=>by
   simp at h;subst h;unfold hU;simp only[List.set_cons_zero,List.map_cons,List.sum_cons];omega
 | x::ns,i+1,n,m,h=>by
   have:=mJ (ns:=ns) (i:=i) m (by simpa using h);unfold hU at this ⊢;simp only[List.set_cons_succ,List.map_cons,List.sum_cons];omega
theorem K9{ns:List PN}{i:Nat}{n:PN}(h:ns[i]?=some n):n.l.length<=hU ns:=by
 have:=mJ n h;have:=mJ (PN.leaf n.c) h;unfold PN.leaf at this;simp at this;omega
theorem tm{s:PS}{c:bY}:hU (cS s c).1.ns<=hU s.ns:=by
 unfold cS;cases s.fr.getLast? with
 | none=>simp only[];rw[IG];simp[hU,PN.leaf]
 | some x=>
   simp only[];cases h:s.ns[x.toNat]? with
   | none=>rw[List.set_eq_of_length_le (by simpa using h)];exact Nat.le_refl _
   | some n=>
     have:=mJ (PN.leaf c) h;simp only[PN.leaf,List.length_nil,Nat.add_zero] at this ⊢;omega
theorem xm{r:cw}:∀(f:Nat) {ns:List PN} {i:Nat},hU (fC f ns i r).1=hU ns
 | 0,ns,i=>rfl
 | f+1,ns,i=>by
   simp only[fC];cases h:ns[i]? with
   | none=>rfl
   | some n=>
     simp only[];split
     ·rw[xm f];have:=mJ { n with many:=IntKind.i64.wrap (n.many+1) } h;simp only[] at this;omega
     ·rfl
structure xe(s:PS)(i:Nat)(c:bY)(k:Nat):Prop where
 out:∃n,s.ns[i]?=some n/\n.c=c/\n.split=true/\(i:Int)∉s.fr/\∀j:Int,0<=j->j<=3->∃(q:Nat) (m:PN),n.rq j=(q:Int)/\s.ns[q]?=some m/\m.c=c.child j/\(q:Int)∉s.fr/\q≠i/\m.split=false/\m.l.length<=k
def o1(s s':PS):Prop:=∀(j:Nat) (q:PN),s.ns[j]?=some q->(j:Int)∉s.fr->(j:Int)∉s'.fr/\∃q',s'.ns[j]?=some q'/\q'.c=q.c/\(q.split=true->q'.split=true)
theorem o1.refl(s:PS):o1 s s:=fun _ q h hj=>⟨hj,q,h,rfl,id⟩
theorem o1.trans{a b c:PS}(h:o1 a b)(k:o1 b c):o1 a c:=fun j q hq hj=>by
 obtain ⟨h1,q1,h2,h3,h4⟩:=h j q hq hj;obtain ⟨k1,q2,k2,k3,k4⟩:=k j q1 h2 h1;exact ⟨k1,q2,k2,k3.trans h3,fun h=>k4 (h4 h)⟩
def qu(s:PS)(i:Nat)(n:PN):PS:=
 let a:=cS s (n.c.child 0)
 let b:=cS a.1 (n.c.child 1)
 let c:=cS b.1 (n.c.child 2)
 let d:=cS c.1 (n.c.child 3)
 ⟨d.1.ns.set i { n with k0:=a.2,k1:=b.2,k2:=c.2,k3:=d.2,many:=0,split:=true,l:=[],v:=aO },d.1.fr⟩
theorem Dr{f:PS->Nat->cw->PS}{s:PS}{i:Nat}{n:PN}(h:s.ns[i]?=some n):xP f s i=n.l.foldl (fun s r=>f s i r) (qu s i n):=by
 unfold xP;rw[h];rfl
theorem yK{bk:Nat}{s:PS}{i:Nat}{n:PN}(h:nK bk (·=i) s)(hn:s.ns[i]?=some n)(hi:(i:Int)∉s.fr)(hs:n.split=false)(hl:n.c.l<16) :
  nK bk (fun _=>False) (qu s i n)/\xe (qu s i n) i n.c 0/\(qu s i n).ns.length<=s.ns.length+4/\hU (qu s i n).ns+n.l.length<=hU s.ns/\o1 s (qu s i n):=by
 have hr:=h.cell i n hn;have hc:=fun j h0 h3=>qa (j:=j) hr hl h0 h3;obtain ⟨ka,a1,a2,a3,a4,a5,a6,a7,a8⟩:=tv h (hc 0 (by omega) (by omega)).1;obtain ⟨kb,b1,b2,b3,b4,b5,b6,b7,b8⟩:=tv a4 (hc 1 (by omega) (by omega)).1;obtain ⟨kc,c1,c2,c3,c4,c5,c6,c7,c8⟩:=tv b4 (hc 2 (by omega) (by omega)).1;obtain ⟨kd,d1,d2,d3,d4,d5,d6,d7,d8⟩:=tv c4 (hc 3 (by omega) (by omega)).1;have ta:=tm (s:=s) (c:=n.c.child 0);have tb:=tm (s:=(cS s (n.c.child 0)).1) (c:=n.c.child 1);have tc:=tm (s:=(cS (cS s (n.c.child 0)).1 (n.c.child 1)).1) (c:=n.c.child 2);have td:=tm (s:=(cS (cS (cS s (n.c.child 0)).1 (n.c.child 1)).1 (n.c.child 2)).1) (c:=n.c.child 3);obtain ⟨na,ea⟩:=a5 i n hn hi;have ia:(i:Int)∉(cS s (n.c.child 0)).1.fr:=fun hx=>hi (a6 _ hx);obtain ⟨nb,eb⟩:=b5 i n na ia;have ib:=fun hx=>ia (b6 _ hx);obtain ⟨nc,ec⟩:=c5 i n nb ib;have ic:=fun hx=>ib (c6 _ hx);obtain ⟨nd,ed⟩:=d5 i n nc ic;have xC:=fun hx=>ic (d6 _ hx);have ga:=(d5 _ _ (c5 _ _ (b5 _ _ a2 a3).1 (fun hx=>a3 (b6 _ hx))).1 (fun hx=>a3 (b6 _ (c6 _ hx)))).1;have gb:=(d5 _ _ (c5 _ _ b2 b3).1 (fun hx=>b3 (c6 _ hx))).1;have gc:=(d5 _ _ c2 c3).1;have fa:(ka:Int)∉_:=fun hx=>a3 (b6 _ (c6 _ (d6 _ hx)));have fb:(kb:Int)∉_:=fun hx=>b3 (c6 _ (d6 _ hx));have fc:(kc:Int)∉_:=fun hx=>c3 (d6 _ hx);unfold qu;simp only[];generalize cS (cS (cS (cS s (n.c.child 0)).1 (n.c.child 1)).1 (n.c.child 2)).1 (n.c.child 3)=d at *;generalize cS (cS (cS s (n.c.child 0)).1 (n.c.child 1)).1 (n.c.child 2)=c at *;generalize cS (cS s (n.c.child 0)).1 (n.c.child 1)=b at *;generalize cS s (n.c.child 0)=a at *;have r9:i<d.1.ns.length:=(List.getElem?_eq_some_iff.1 nd).1;have jc:∀(j:Nat) (q:PN),s.ns[j]?=some q->(j:Int)∉s.fr->(j:Int)∉d.1.fr/\d.1.ns[j]?=some q:=fun j q hq hj=>by
  have e1:(j:Int)∉a.1.fr:=fun hx=>hj (a6 _ hx);have e2:(j:Int)∉b.1.fr:=fun hx=>e1 (b6 _ hx);have e3:(j:Int)∉c.1.fr:=fun hx=>e2 (c6 _ hx);exact ⟨fun hx=>e3 (d6 _ hx),(d5 j q (c5 j q (b5 j q (a5 j q hq hj).1 e1).1 e2).1 e3).1⟩
 have SK:∀j:Int,0<=j->j<=3->∃(q:Nat) (m:PN),PN.rq { n with k0:=a.2,k1:=b.2,k2:=c.2,k3:=d.2,many:=0,split:=true,l:=[],v:=aO } j=(q:Int)/\d.1.ns[q]?=some m/\m.c=n.c.child j/\(q:Int)∉d.1.fr/\q≠i/\m.split=false/\m.l.length<=0:=by
  intro j h0 h3;unfold PN.rq;simp only[];rcases (by omega:j=0\/j=1\/j=2\/j=3) with rfl|rfl|rfl|rfl
  ·exact ⟨ka,_,by simpa using a1,ga,rfl,fa,Ne.symm ea,rfl,Nat.le_refl _⟩
  ·exact ⟨kb,_,by simpa using b1,gb,rfl,fb,Ne.symm eb,rfl,Nat.le_refl _⟩
  ·exact ⟨kc,_,by simpa using c1,gc,rfl,fc,Ne.symm ec,rfl,Nat.le_refl _⟩
  ·exact ⟨kd,_,by simpa using d1,d2,rfl,d3,Ne.symm ed,rfl,Nat.le_refl _⟩
 generalize hN:({ n with k0:=a.2,k1:=b.2,k2:=c.2,k3:=d.2,many:=0,split:=true,l:=[],v:=aO }:PN)=N at *;have LC:N.c=n.c:=by rw[<-hN]
 have WJ:N.split=true:=by rw[<-hN]
 have YJ:N.l=[]:=by rw[<-hN]
 have get:∀q m,d.1.ns[q]?=some m->q≠i->(d.1.ns.set i N)[q]?=some m:=fun q m hq aN=>by rw[List.getElem?_set,if_neg (Ne.symm aN)];exact hq
 have kk:∀q:PN,vF d.1 q->vF ⟨d.1.ns.set i N,d.1.fr⟩ q:=fun q hq=>⟨hq.lt,fun j h0 h3=>by
  obtain ⟨k,y,h1,h2,h4,h5⟩:=hq.rq j h0 h3;by_cases e:k=i
  ·subst e;rw[h2] at nd;cases nd
   exact ⟨k,N,h1,by simp[r9],by rw[LC,h4],h5⟩
  ·exact ⟨k,y,h1,get k y h2 e,h4,h5⟩⟩
 refine ⟨⟨fun j q hq=>?_,fun j q hq lM=>?_,fun j q hq _ lM Cs=>?_,fun y hy=>?_,d4.LA⟩,⟨N,by simp[r9],LC,WJ,xC,fun j h0 h3=>?_⟩,by simp only[List.length_set];omega,?_,fun j q hq hj=>?_⟩
 ·rcases ou hq with ⟨_,rfl,_⟩|⟨_,hq⟩
  ·rw[LC];exact hr
  ·exact d4.cell j q hq
 ·rcases ou hq with ⟨_,rfl,_⟩|⟨_,hq⟩
  ·refine ⟨by rw[LC];exact hl,fun j h0 h3=>?_⟩;obtain ⟨q,m,g1,g2,g3,g4,g5,_⟩:=SK j h0 h3;exact ⟨q,m,g1,get q m g2 g5,by rw[LC];exact g3,g4⟩
  ·exact kk q (d4.kids j q hq lM)
 ·rcases ou hq with ⟨_,rfl,_⟩|⟨hj,hq⟩
  ·rw[WJ] at lM;cases lM
  ·exact d4.I6 j q hq hj lM Cs
 ·obtain ⟨k,g1,g2⟩:=d4.free y hy;exact ⟨k,g1,by simpa using g2⟩
 ·obtain ⟨q,m,g1,g2,g3,g4,g5,g6⟩:=SK j h0 h3;exact ⟨q,m,g1,get q m g2 g5,g3,g4,g5,g6⟩
 ·have:=mJ N nd;rw[YJ] at this;simp only[List.length_nil] at this;omega
 ·obtain ⟨g1,g2⟩:=jc j q hq hj;refine ⟨g1,?_⟩;by_cases e:j=i
  ·subst e;rw[hn] at hq;cases hq
   exact ⟨N,by simp[r9],LC,fun h=>by rw[hs] at h;cases h⟩
  ·exact ⟨q,get j q g2 e,rfl,id⟩
theorem By{bk f:Nat}{s:PS}{i k:Nat}{c:bY}{r:cw}(hF:xe s i c k)(hk:k<bk):xe (gH bk (f+1) s i r) i c (k+1)/\(gH bk (f+1) s i r).ns.length=s.ns.length:=by
 obtain ⟨n,h1,h2,h3,h4,h5⟩:=hF.out;have hw:=mK n r;obtain ⟨q,m,g1,g2,g3,g4,g5,g6,g7⟩:=h5 (n.yb r) hw.1 hw.2;have e1:(s.ns.set i { n with many:=IntKind.i64.wrap (n.many+1) })[q]?=some m:=by rw[List.getElem?_set,if_neg (Ne.symm g5)];exact g2
 have hd:fC 17 s.ns i r=(s.ns.set i { n with many:=IntKind.i64.wrap (n.many+1) },q):=by
  show fC (15+1+1) s.ns i r=_
  simp only[fC,h1,if_pos h3,g1,Int.toNat_natCast,e1,g6,Bool.false_eq_true,if_false]
 have hp:gH bk (f+1) s i r=⟨(s.ns.set i { n with many:=IntKind.i64.wrap (n.many+1) }).set q { m with many:=IntKind.i64.wrap (m.many+1),l:=m.l++[r] },s.fr⟩:=by
  simp only[gH,hd,e1];rw[if_neg (by omega)]
 rw[hp];have r9:=(List.getElem?_eq_some_iff.1 h1).1;have Cs:=(List.getElem?_eq_some_iff.1 g2).1;refine ⟨⟨{ n with many:=IntKind.i64.wrap (n.many+1) },?_,h2,h3,h4,fun j h0 hj=>?_⟩,by simp⟩
 ·simp only[];rw[List.getElem?_set,if_neg g5];simp[r9]
 ·obtain ⟨q',m',e2,e3,e4,e5,e6,e7,e8⟩:=h5 j h0 hj;by_cases e:q=q'
  ·subst e;rw[g2] at e3;cases e3
   exact ⟨q,{ m with many:=IntKind.i64.wrap (m.many+1),l:=m.l++[r] },e2,by simp[Cs],e4,e5,e6,e7,by simp;omega⟩
  ·refine ⟨q',m',e2,?_,e4,e5,e6,e7,by omega⟩;simp only[];rw[List.getElem?_set,if_neg e,List.getElem?_set,if_neg (Ne.symm e6)];exact e3
def gX(n:PN):Int:=if n.split then 15 - n.c.l else 16 - n.c.l
structure IL(bk:Nat)(s s':PS)(add:Int)(t:Nat):Prop where
 wf:nK bk (fun _=>False) s'
 keeps:o1 s s'
 len:(s'.ns.length:Int)<=s.ns.length+add
 hU:hU s'.ns<=hU s.ns+t
theorem Dt{bk f i:Nat}{c:bY}(ih:∀(s:PS) (i:Nat) (n:PN) (r:cw),nK bk (fun _=>False) s->s.ns[i]?=some n->(i:Int)∉s.fr->1+gX n<=f->1<=f->IL bk s (gH bk f s i r) (4 * gX n) 1)(hf:16 - c.l<=f)(EH:1<=f) :
  ∀(l:List cw) (s:PS) (k:Nat),nK bk (fun _=>False) s->xe s i c k->k+l.length<=bk+1->IL bk s (l.foldl (fun s r=>gH bk f s i r) s) (4 * (15 - c.l)) l.length
 | [],s,k,h,hF,_=>by
   obtain ⟨n,h1,h2,h3,_⟩:=hF.out;have:=(h.kids i n h1 h3).lt;rw[h2] at this;exact ⟨h,.refl s,by simp only[List.foldl_nil];omega,Nat.le_refl _⟩
 | r::l,s,k,h,hF,hk=>by
   obtain ⟨n,h1,h2,h3,h4,_⟩:=hF.out;have hr:gX n=15 - c.l:=by unfold gX;rw[if_pos h3,h2]
   have h5:=ih s i n r h h1 h4 (by rw[hr];omega) EH;rw[hr] at h5;simp only[List.length_cons] at hk;simp only[List.foldl_cons,List.length_cons];by_cases EK:k<bk
   ·obtain ⟨f,rfl⟩:∃g,f=g+1:=⟨f - 1,by omega⟩;obtain ⟨h6,h7⟩:=By (f:=f) (r:=r) hF EK;have h8:=Dt ih hf EH l _ (k+1) h5.wf h6 (by omega);have a1:=h5.hU;have a2:=h8.hU;have a3:=h8.len;exact ⟨h8.wf,h5.keeps.trans h8.keeps,by omega,by omega⟩
   ·have:l=[]:=List.eq_nil_of_length_eq_zero (by omega);subst this;exact h5
theorem Gi{bk f:Nat}{x:Nat->Prop}{r:cw}{s:PS}{i:Nat}{n:PN}(h:nK bk x s)(hn:s.ns[i]?=some n)(hi:(i:Int)∉s.fr)(hf:17 - n.c.l<=f):o1 s ⟨(fC f s.ns i r).1,s.fr⟩:=fun j q hq hj=>by
 obtain ⟨_,_,_,_,_,_,_,_,g8⟩:=pK (r:=r) f h hn hi hf;have:=g8 j;rw[hq] at this;refine ⟨hj,?_⟩;cases hd:(fC f s.ns i r).1[j]? with
 | none=>rw[hd] at this;cases this
 | some q'=>
   rw[hd] at this;simp only[Option.map_some,Option.some.injEq,Prod.mk.injEq] at this;exact ⟨q',rfl,this.1,fun h=>by rw[this.2.1];exact h⟩
theorem Bu{bk:Nat}:∀(f:Nat) (s:PS) (i:Nat) (n:PN) (r:cw),nK bk (fun _=>False) s->s.ns[i]?=some n->(i:Int)∉s.fr->1+gX n<=f->1<=f->IL bk s (gH bk f s i r) (4 * gX n) 1
 | 0,_,_,_,_,_,_,_,_,h1=>by omega
 | f+1,s,i,n,r,h,hn,hi,hf,_=>by
   have hb:=bY.bd (h.cell i n hn);obtain ⟨m,d1,d2,d3,d4,d5,d6,d7,d8⟩:=pK (r:=r) 17 h hn hi (by omega);have dk:=Gi (r:=r) (f:=17) h hn hi (by omega);have dt:=xm (r:=r) 17 (ns:=s.ns) (i:=i);simp only[gH];generalize fC 17 s.ns i r=d at *;rw[d1];simp only[];have QR:=bY.bd (d5.cell _ _ d1);have ht:=mJ { m with many:=IntKind.i64.wrap (m.many+1),l:=m.l++[r] } d1;simp only[List.length_append,List.length_cons,List.length_nil] at ht;have jd:16 - m.c.l<=gX n:=by
    unfold gX;split
    ·rename_i hs;have:=d4 hs;omega
    ·omega
   have jc:o1 s ⟨d.1.set d.2 { m with many:=IntKind.i64.wrap (m.many+1),l:=m.l++[r] },s.fr⟩:=dk.trans fun j q hq hj=>by
    refine ⟨hj,?_⟩;simp only[] at hq ⊢;by_cases e:d.2=j
    ·subst e;rw[d1] at hq;cases hq
     exact ⟨{ m with many:=IntKind.i64.wrap (m.many+1),l:=m.l++[r] },by rw[List.getElem?_set,if_pos rfl,if_pos (List.getElem?_eq_some_iff.1 d1).1],rfl,id⟩
    ·exact ⟨q,by rw[List.getElem?_set,if_neg e];exact hq,rfl,id⟩
   by_cases hc:bk<m.l.length+1/\m.c.l<16
   ·rw[if_pos hc];have w1:nK bk (·=d.2) (⟨d.1,s.fr⟩:PS):=⟨d5.cell,d5.kids,fun j q hq _ hs hl=>d5.I6 j q hq id hs hl,d5.free,d5.LA⟩;have w2:=w1.turn (m:={ m with many:=IntKind.i64.wrap (m.many+1),l:=m.l++[r] }) d1 ⟨rfl,rfl,rfl,rfl,rfl,rfl⟩ (fun hx=>absurd rfl hx);have sc:=d5.I6 _ _ d1 id d2 hc.2;have fk:(d.1.set d.2 { m with many:=IntKind.i64.wrap (m.many+1),l:=m.l++[r] })[d.2]?=some { m with many:=IntKind.i64.wrap (m.many+1),l:=m.l++[r] }:=by rw[List.getElem?_set,if_pos rfl,if_pos (List.getElem?_eq_some_iff.1 d1).1]
    obtain ⟨p1,p2,p3,p4,p5⟩:=yK w2 fk d7 d2 hc.2;rw[Dr (s:=⟨d.1.set d.2 { m with many:=IntKind.i64.wrap (m.many+1),l:=m.l++[r] },s.fr⟩) fk];have q1:=Dt (Bu f) (by simp only[];omega) (by omega) (m.l++[r]) _ 0 p1 p2 (by simp;omega);have q2:=q1.len;have q3:=q1.hU;simp only[List.length_append,List.length_cons,List.length_nil,List.length_set] at p3 p4 q2 q3;exact ⟨q1.wf,jc.trans (p5.trans q1.keeps),by simp only[List.length_append,List.length_cons,List.length_nil] at *;omega,by simp only[List.length_append,List.length_cons,List.length_nil] at *;omega⟩
   ·rw[if_neg hc];refine ⟨d5.turn d1 ⟨rfl,rfl,rfl,rfl,rfl,rfl⟩ fun _ _ hl=>?_,jc,?_,by simp only[];omega⟩
    ·simp only[List.length_append,List.length_cons,List.length_nil] at hl ⊢;omega
    ·simp only[List.length_set];omega
abbrev Iz:TypeId:=296
abbrev DX:TypeId:=293
def sS(l:List dN)(n:Nat):List af:=.cells [zn 1 10 n] Iz::zp (l.flatMap tC) DX n
def Cg(l:List dN)(s:Nat):Int:=match mc l s with
 | some i=>i
 | none=>-1
theorem IQ(l:List dN)(s:Nat):o4 s (l.map fun k=>k.bC)=Cg l s:=by
 unfold o4 Cg mc;rw[List.findIdx?_map];rfl
def Na(l:List dN):Prop:=l.length<=8/\∀k∈l,k.bC<18446744073709551616/\k.parent<18446744073709551616
theorem MF{l:List dN}{n:Nat}{c:o0}(hn:l.length=n+1)(hl:l.length<=1000) :
  CP [] 261 [.ptr 0 0,.lit (.func (.func 262) #[] #[])] [.cells [.slice 1 0 (n+1) c] Iz,.row (l.flatMap tC) DX] (fun v H'=>v=.slice 2 0 (n+1) (.grown 1)/\H'=[.cells [.slice 1 0 (n+1) c] Iz,.row (l.flatMap tC) DX,.row (l.map fun k=>uC k.bC) 47]):=by
 rw[<-hn];exact PO hl fun m hm=>by
  obtain rfl:m=n+1:=by omega
  rw[hn];exact ⟨rfl,rfl⟩
theorem ME:CP [] 261 [.ptr 0 0,.lit (.func (.func 262) #[] #[])] (sS [] 0) (fun v H'=>v=.lit (.slice none 0 0)/\H'=sS [] 0):=by
 refine ae U rfl ?_;conv=>whnf
 refine bL.loop 1 (bL.step U rfl ?_);conv=>whnf
 exact ⟨rfl,rfl⟩
theorem R7{s:Nat}:CP [] 275 [.lit (.slice none 0 0),uA s] [] (fun v _=>v=.tuple [iA (-1),iA 0]):=by
 refine ae U rfl ?_;conv=>whnf
 refine bL.loop 1 (bL.step U rfl ?_);conv=>whnf
theorem R6{l:List Nat}{n s:Nat}{c:o0}(hn:l.length=n+1)(hl:l.length<=1000)(hb:∀x∈l,x<18446744073709551616)(hs:s<18446744073709551616):CP [] 275 [.slice 0 0 (n+1) c,uA s] [.row (l.map uC) 47] (fun v H'=>v=.tuple [iA (o4 s l),iA (8 * l.length)]/\H'=[.row (l.map uC) 47]):=by
 rw[<-hn];exact R5 hl hb hs ⟨rfl,rfl⟩
theorem Sc{l:List dN}{n s:Nat}(hn:l.length=n)(h:Na l)(hs:s<18446744073709551616):CP [] 188 [.ptr 0 0,uA s] (sS l n) (fun v H'=>v=iA (Cg l s)/\∃G,H'=sS l n++G):=by
 refine ae U rfl ?_;rcases n with _|n
 ·obtain rfl:=List.eq_nil_of_length_eq_zero hn;conv=>whnf
  refine ME.use [0] rfl rfl ⟨⟨_,rfl,rfl⟩,tU⟩ ?_;rintro _ _ ⟨rfl,rfl⟩;refine ⟨[],?_⟩;conv=>whnf
  refine (R7 (s:=s)).use [] rfl rfl trivial ?_;rintro _ _ rfl;refine ⟨[],?_⟩;conv=>whnf
  exact ⟨congrArg iA (by unfold Cg mc;split<;>simp_all),[],rfl⟩
 ·conv=>whnf
  refine (MF hn (by have:=h.1;omega)).use [0,1] rfl rfl ⟨⟨_,rfl,rfl⟩,⟨_,rfl,rfl⟩,tU⟩ ?_;rintro _ _ ⟨rfl,rfl⟩;refine ⟨[2],?_⟩;conv=>whnf
  refine (R6 (l:=l.map fun k=>k.bC) (by simpa using hn) (by simp;have:=h.1;omega) (by simpa using fun k hk=>(h.2 k hk).1) hs).use [2] rfl rfl ⟨⟨_,rfl,by simp[List.map_map];rfl⟩,tU⟩ ?_;rintro _ _ ⟨rfl,rfl⟩;refine ⟨[],?_⟩;conv=>whnf
  exact ⟨congrArg iA (IQ l s),_,rfl⟩
theorem Qk(l:List dN)(s:Nat):decide (Cg l s>=0)=(mc l s).isSome:=by
 unfold Cg;cases h:mc l s<;>simp
theorem Ql(l:List dN)(s:Nat):decide (Cg l s<0)=(mc l s).isNone:=by
 unfold Cg;cases h:mc l s with
 | none=>simp
 | some i=>simp
theorem FO:jE ev 294 DX 10:=⟨⟨_,rfl,rfl⟩,_,_,rfl,rfl,rfl,rfl,by decide⟩
theorem Na.take{l:List dN}(h:Na l)(k:Nat):Na (l.take k):=⟨by rw[List.length_take];have:=h.1;omega,fun x hx=>h.2 x (List.mem_of_mem_take hx)⟩
theorem MP(acc:List dN)(k:dN):(!k.g.right || decide (k.bC=0) || (mc acc k.bC).isSome || (decide (k.parent≠0)&&(mc acc k.parent).isNone))=(!k.g.right || ((k.bC:Int)==0) || decide (Cg acc k.bC>=0) || (!((k.parent:Int)==0)&&decide (Cg acc k.parent<0))):=by
 rw[Qk,Ql];have e:∀n:Nat,((n:Int)==0)=decide (n=0):=fun n=>by rw[Bool.eq_iff_iff];simp
 rw[e,e];simp
section
variable{r z a p b:Bool}
theorem Wc(h:r=false):(!r || z || a || (p&&b))=true:=by rw[h];rfl
theorem Wd(h:z=true):(!r || z || a || (p&&b))=true:=by rw[h];simp
theorem We(h:a=true):(!r || z || a || (p&&b))=true:=by rw[h];simp
theorem Wf(h:p=true)(h':b=true):(!r || z || a || (p&&b))=true:=by rw[h,h'];simp
theorem Wg(h:r=true)(h1:z=false)(h2:a=false)(h3:p=false):¬(!r || z || a || (p&&b))=true:=by rw[h,h1,h2,h3];simp
theorem Wh(h:r=true)(h1:z=false)(h2:a=false)(h3:b=false):¬(!r || z || a || (p&&b))=true:=by rw[h,h1,h2,h3];simp
end
def ux(k:dN):Value:=.agg (tC k).toArray
theorem Sh{l:List dN}{n c:Nat}{R:aH}{oa:Option Addr}(hn:l.length=n+1)(hx:eG Tryz.prog R 96 10 oa ux l)(hb:∀k∈l,k.bC<18446744073709551616/\k.parent<18446744073709551616) :
  CP [] 136 [.lit (.slice oa (n+1) c)] [.res R] (fun v H'=>match cg l with
   | some _=>v=.tuple [.ptr 1 0,iA 0]/\∃G,H'=.res R::.cells [.slice 2 0 (n+1) (.grown 10)] Iz::.row (l.flatMap tC) DX::G
   | none=>v=.tuple [.lit (.pointer none),iA 1]/\∃G,H'=.res R::G):=by
 refine ae U rfl ?_;repeat' ((conv=>whnf);first|with_reducible apply aa<;>intro _|refine aJ.drawn U rfl rfl ?_|with_reducible refine And.intro (aG.mk ⟨_,rfl,rfl⟩) ?_|refine ae U rfl ?_)
 all_goals conv=>whnf
 ·rename_i h;have h:8<l.length:=by have:=of_decide_eq_true h;omega
  unfold cg;rw[if_pos h];exact ⟨rfl,_,rfl⟩
 ·rename_i h;have h8:l.length<=8:=by have:=of_decide_eq_false h;omega
  have hT:Na l:=⟨h8,hb⟩;have hf:cg l=dE l []:=by unfold cg;rw[if_neg (by omega)]
  refine aW U rfl (fun k:Nat=>[(4,.ptr 1 0),(11,.lit (.slice oa (n+1) c)),(12,iA ((n+1:Nat):Int)),(13,iA (k:Nat))]) (fun k=>[.res R,.cells [zn 2 10 k] Iz]++zp ((l.take k).flatMap tC) DX k)
   (fun k=>k<=n+1/\cg l=dE (l.drop k) (l.take k)) (fun k=>n+1 - k) 0 ⟨by omega,hf⟩ [0,1] ?_ ?_
  ·exact ⟨rfl,⟨rr,rr,rr,rr,tU⟩,⟨ko,⟨_,rfl,rfl⟩,tU⟩⟩
  ·rintro k ⟨gT,r7⟩;by_cases hk:k<n+1
   ·have cB:k<l.length:=by omega
    have hs:=bf cB;have hd:l.drop k=l[k]::l.drop (k+1):=(List.drop_eq_getElem_cons cB);rw[hd] at r7;simp only[dE] at r7;rw[<-hs,MP] at r7;have QP:=hb _ (List.getElem_mem cB);obtain ⟨a,rfl,bq⟩:=hx.at cB;rcases k with _|k
    ·conv=>whnf
     refine aa (fun _=>?_) (ck hk);conv=>whnf
     refine ai.bJ U rfl rfl rfl rfl rfl hk ?_;conv=>whnf
     refine ai.aR (i:=0) (v:=.agg ((tC l[_]).map .lit)) rfl (fun w S hR=>bq w S hR _ cB) rfl rfl ?_;repeat' ((conv=>whnf);first|with_reducible apply aa<;>intro _|refine aJ.drawn U rfl rfl ?_|with_reducible refine And.intro (aG.mk ⟨_,rfl,rfl⟩) ?_|refine Ir (g:=l[0].g) ?_|(refine (Sc (l:=l.take (0)) (n:=0) (by simp<;>omega) (hT.take (0)) QP.1).use [1] rfl rfl ⟨⟨_,rfl,rfl⟩,tU⟩ ?_;rintro _ _ ⟨rfl,G,rfl⟩;refine ⟨[],?_⟩)|(refine (Sc (l:=l.take (0)) (n:=0) (by simp<;>omega) (hT.take (0)) QP.2).use [1] rfl rfl ⟨⟨_,rfl,rfl⟩,tU⟩ ?_;rintro _ _ ⟨rfl,G,rfl⟩;refine ⟨[],?_⟩)|refine dP.nil FO rfl rfl rfl rfl rfl ?_|refine ae U rfl ?_)
     all_goals (try conv=>whnf)
     all_goals first
      | (rw[r7];first|rw[if_pos (Wc (by assumption))]|rw[if_pos (Wd (by assumption))]|rw[if_pos (We (by assumption))]|rw[if_pos (Wf (by assumption) (by assumption))]
         exact ⟨rfl,_,rfl⟩)
      | (first|rw[if_neg (Wg (by assumption) (by assumption) (by assumption) (by assumption))] at r7|rw[if_neg (Wh (by assumption) (by assumption) (by assumption) (by assumption))] at r7
         exact ⟨0+1,[0,1,4],⟨⟨hk,r7⟩,by omega⟩,rfl,⟨rr,rr,rr,⟨rfl,aw rfl rfl⟩,tU⟩,⟨ko,⟨_,rfl,rfl⟩,⟨_,rfl,by rw[hs,List.flatMap_append];rfl⟩,tU⟩⟩)
      | trace_state
    ·conv=>whnf
     refine aa (fun _=>?_) (ck hk);conv=>whnf
     refine ai.bJ U rfl rfl rfl rfl rfl hk ?_;conv=>whnf
     refine ai.aR (i:=0) (v:=.agg ((tC l[_]).map .lit)) rfl (fun w S hR=>bq w S hR _ cB) rfl rfl ?_;repeat' ((conv=>whnf);first|with_reducible apply aa<;>intro _|refine aJ.drawn U rfl rfl ?_|with_reducible refine And.intro (aG.mk ⟨_,rfl,rfl⟩) ?_|refine Ir (g:=l[k+1].g) ?_|(refine (Sc (l:=l.take (k+1)) (n:=k+1) (by simp<;>omega) (hT.take (k+1)) QP.1).use [1,2] rfl rfl ⟨⟨_,rfl,rfl⟩,⟨_,rfl,rfl⟩,tU⟩ ?_;rintro _ _ ⟨rfl,G,rfl⟩;refine ⟨[],?_⟩)|(refine (Sc (l:=l.take (k+1)) (n:=k+1) (by simp<;>omega) (hT.take (k+1)) QP.2).use [1,2] rfl rfl ⟨⟨_,rfl,rfl⟩,⟨_,rfl,rfl⟩,tU⟩ ?_;rintro _ _ ⟨rfl,G,rfl⟩;refine ⟨[],?_⟩)|refine dP.own FO rfl rfl rfl rfl rfl rfl (by rw[eL zJ,List.length_take];omega) (by omega) ?_|refine ae U rfl ?_)
     all_goals (try conv=>whnf)
     all_goals first
      | (rw[r7];first|rw[if_pos (Wc (by assumption))]|rw[if_pos (Wd (by assumption))]|rw[if_pos (We (by assumption))]|rw[if_pos (Wf (by assumption) (by assumption))]
         exact ⟨rfl,_,rfl⟩)
      | (first|rw[if_neg (Wg (by assumption) (by assumption) (by assumption) (by assumption))] at r7|rw[if_neg (Wh (by assumption) (by assumption) (by assumption) (by assumption))] at r7
         exact ⟨k+1+1,[0,1,5],⟨⟨hk,r7⟩,by omega⟩,rfl,⟨rr,rr,rr,⟨rfl,aw rfl (aj (by omega) (by omega))⟩,tU⟩,⟨ko,⟨_,rfl,rfl⟩,⟨_,rfl,by rw[hs,List.flatMap_append];rfl⟩,tU⟩⟩)
      | trace_state
   ·obtain rfl:k=n+1:=by omega
    rw[<-hn,List.drop_length,List.take_length] at r7;rw[show (l.take (n+1))=l by rw[<-hn,List.take_length],r7];conv=>whnf
    refine aa (cI hk) (fun _=>?_);conv=>whnf
    exact ⟨rfl,_,rfl⟩
theorem P2{oa:Option Addr}{c:Nat}{H:List af}:CP [] 136 [.lit (.slice oa 0 c)] [] (fun v H'=>v=.tuple [.ptr 0 0,iA 0]/\∃G,H'=sS [] 0++G):=by
 refine ae U rfl ?_;repeat' ((conv=>whnf);first|with_reducible apply aa<;>intro _|refine ae U rfl ?_)
 all_goals conv=>whnf
 refine bL.loop 1 (bL.step U rfl ?_);conv=>whnf
 exact ⟨rfl,[],rfl⟩
def wY(a:Addr)(l:List dN):aH:=AtR a 0 (sS l l.length)
theorem Sg{R:aH}{oa:Option Addr}{c:Nat}{l:List dN}(hx:eG Tryz.prog R 96 10 oa ux l)(hb:∀k∈l,k.bC<18446744073709551616/\k.parent<18446744073709551616) :
  CP [] 136 [.lit (.slice oa l.length c)] [.res R] (fun v H'=>match cg l with
   | some _=>∃a,v=.tuple [.lit (.pointer (some a)),iA 0]/\H'=[.res R,.res (wY a l)]
   | none=>v=.tuple [.lit (.pointer none),iA 1]/\∃G,H'=.res R::G):=by
 rcases l with _|⟨k,l⟩
 ·have h0:cg []=some []:=rfl;rw[h0];refine ag.lower (K':=fun v H'=>v=.tuple [.ptr 1 0,iA 0]/\∃G,H'=.res R::sS [] 0++G) ?_ ?_
  ·refine (P2 (oa:=oa) (c:=c) (H:=[])).use [] rfl rfl trivial ?_;rintro _ _ ⟨rfl,G,rfl⟩;refine ⟨[0],?_⟩;conv=>whnf
   exact ⟨rfl,[],rfl⟩
  ·rintro _ _ ⟨rfl,G,rfl⟩;refine ⟨[0],[1],1,0,sS [] 0,[iA 0],⟨rfl,rfl,⟨⟨_,rfl,rfl⟩,tU⟩,⟨⟨_,rfl,rfl⟩,tU⟩,?_,fun _=>rfl⟩,rfl,fun a=>⟨a,rfl,rfl⟩⟩;exact bc.cons R (bc.cons aA (bc.all _))
 ·have h1:=Sh (n:=l.length) (c:=c) rfl hx hb;cases hf:cg (k::l) with
  | none=>
    rw[hf] at h1;exact h1
  | some q=>
    rw[hf] at h1;refine ag.lower h1 ?_;rintro _ _ ⟨rfl,G,rfl⟩;refine ⟨[0],[1,2],1,0,sS (k::l) (l.length+1),[iA 0],⟨rfl,rfl,⟨⟨_,rfl,rfl⟩,tU⟩,⟨⟨_,rfl,rfl⟩,⟨_,rfl,rfl⟩,tU⟩,?_,fun _=>rfl⟩,rfl,fun a=>⟨a,rfl,rfl⟩⟩;exact bc.cons R (bc.cons aA (bc.cons aA (bc.all _)))
def Et(e:jU):List Value:=[.int .i64 e.user,.int .i64 e.op,.int .i64 e.status,.int .i64 e.tick]
theorem Al(e:jU):(Et e).length=4:=rfl
abbrev Sb:TypeId:=81
abbrev P0:TypeId:=241
theorem Kq:jE ev 26 Sb 4:=⟨⟨_,rfl,rfl⟩,_,_,rfl,rfl,rfl,rfl,by decide⟩
def II(es:List jU)(past:Int)(n:Nat):List af:=.cells [zn 1 4 n,iA past] P0::zp (es.flatMap Et) Sb n
def zq(a:Addr)(es:List jU)(past:Int):aH:=AtR a 0 (II es past es.length)
theorem To{a:Addr}{es:List jU}{past:Int}{e:jU}(hl:es.length<=60000):CP [] 56 [.lit (.pointer (some a)),.agg (Gq e)] [.res (zq a es past)] (fun v H'=>v=bA true/\H'=[.res (zq a (es++[e]) past)]):=by
 rcases es with _|⟨e0,es⟩
 ·refine ag.Cy (K':=fun v H'=>v=bA true/\∃A B,H'=[.cells [.slice 3 0 1 (.grown 4),iA past] P0,A,B,.row (Et e) Sb]/\kh A=aA/\kh B=aA) ?_ (fun _=>rfl) ?_
  ·refine ae U rfl ?_;repeat' ((conv=>whnf);first|with_reducible apply aa<;>intro _|refine aJ.drawn U rfl rfl ?_|with_reducible refine And.intro (aG.mk ⟨_,rfl,rfl⟩) ?_|refine dP.nil Kq rfl rfl rfl rfl rfl ?_)
   conv=>whnf
   exact ⟨rfl,_,_,rfl,rfl,rfl⟩
  ·rintro _ _ ⟨rfl,A,B,rfl,hA,hB⟩;refine ⟨[0,3],II ([]++[e]) past 1,⟨rfl,rfl,⟨⟨_,rfl,rfl⟩,⟨_,rfl,by simp[rh,qU,af.cG,vw,Et]⟩,tU⟩,?_,fun _=>rfl⟩,rfl,rfl⟩;exact bc.cons _ (bc.Hl _ |>.trans (bc.cons _ (bc.all _)))
 ·refine ag.Cy (K':=fun v H'=>v=bA true/\∃A B,H'=[.cells [.slice 4 0 (es.length+1+1) (.grown 4),iA past] P0,.dead,A,B,.row ((e0::es).flatMap Et++Et e) Sb]/\kh A=aA/\kh B=aA) ?_ (fun _=>rfl) ?_
  ·refine ae U rfl ?_;repeat' ((conv=>whnf);first|with_reducible apply aa<;>intro _|refine aJ.drawn U rfl rfl ?_|with_reducible refine And.intro (aG.mk ⟨_,rfl,rfl⟩) ?_|refine dP.own Kq rfl rfl rfl rfl rfl rfl (by rw[eL Al];rfl) (by simp at hl;omega) ?_)
   conv=>whnf
   exact ⟨rfl,_,_,rfl,rfl,rfl⟩
  ·rintro _ _ ⟨rfl,A,B,rfl,hA,hB⟩;refine ⟨[0,4],II (e0::es++[e]) past (es.length+1+1),⟨rfl,rfl,⟨⟨_,rfl,rfl⟩,⟨_,rfl,by rw[List.flatMap_append];rfl⟩,tU⟩,?_,fun _=>rfl⟩,rfl,?_⟩
   ·exact bc.cons _ (bc.Hl _ |>.trans (bc.cons _ (bc.all _)))
   ·unfold zq;rw[show (e0::es++[e]).length=es.length+1+1 by simp]
def qJ(past n:Int):Bool×Int:=if n<0\/4611686018427387903 - past<n then (false,past) else (true,past+n)
theorem Tp{a:Addr}{es:List jU}{past n:Int}(hp:0<=past/\past<=4611686018427387903):CP [] 55 [.lit (.pointer (some a)),iA n] [.res (zq a es past)] (fun v H'=>v=bA (qJ past n).1/\H'=[.res (zq a es (qJ past n).2)]):=by
 have hw:IntKind.i64.wrap (4611686018427387903 - past)=4611686018427387903 - past:=aj (by omega) (by omega);rcases hn:es.length with _|k;all_goals
  unfold zq
  rw[hn]
  refine ag.Cy (K':=fun v H'=>v=bA (qJ past n).1/\H'=II es (qJ past n).2 es.length) ?_ (fun _=>rfl) ?_
  ·rw[hn]
   refine ae U rfl ?_
   repeat' ((conv=>whnf);with_reducible apply aa<;>intro _)
   all_goals conv=>whnf
   all_goals
    simp only[hw,decide_eq_true_eq,decide_eq_false_iff_not] at *
    unfold qJ
   ·rw[if_pos (by omega)];exact ⟨rfl,rfl⟩
   ·rw[if_pos (by omega)];exact ⟨rfl,rfl⟩
   ·rw[if_neg (by omega),aj (n:=past+n) (by omega) (by omega)];exact ⟨rfl,rfl⟩
  ·rintro _ _ ⟨rfl,rfl⟩
   rw[hn]
   first
    | exact ⟨[0],II es (qJ past n).2 0,⟨rfl,rfl,⟨⟨_,rfl,rfl⟩,tU⟩,.refl _,fun _=>rfl⟩,rfl,rfl⟩
    | exact ⟨[0,1],II es (qJ past n).2 (k+1),⟨rfl,rfl,⟨⟨_,rfl,rfl⟩,⟨_,rfl,rfl⟩,tU⟩,.refl _,fun _=>rfl⟩,rfl,rfl⟩
theorem V2:CP [] 135 [] [] (fun v H'=>∃a,v=.lit (.pointer (some a))/\H'=[.res (zq a [] 0)]):=by
 refine ag.lower (K':=fun v H'=>v=.ptr 0 0/\H'=II [] 0 0) ?_ ?_
 ·refine ae U rfl ?_;repeat' ((conv=>whnf);with_reducible apply aa<;>intro _)
  exact ⟨rfl,rfl⟩
 ·rintro _ _ ⟨rfl,rfl⟩;exact ⟨[],[0],0,0,II [] 0 0,[],⟨rfl,rfl,tU,⟨⟨_,rfl,rfl⟩,tU⟩,.refl _,fun _=>rfl⟩,rfl,fun a=>⟨a,rfl,rfl⟩⟩
def sH(a:Addr)(M:List (Int×Mem)):aH:=AtR a 1 (sG M)
theorem HW{a:Addr}{M:List (Int×Mem)}{G:List af}{v:AV}(hv:∀g,v.cG g=v):CJ [0,1] 1 (sG M++G) (sG M) v:=
 ⟨rfl,rfl,⟨⟨_,rfl,rfl⟩,⟨_,rfl,rfl⟩,tU⟩,bc.cons _ (bc.cons _ (bc.all _)),hv⟩
theorem Pg{a:Addr}{M:List (Int×Mem)}{m:Mem}:CP [] 137 [.lit (.pointer (some a)),.agg (mA m)] [.res (sH a M)] (fun v H'=>v=iA (Er M m)/\H'=[.res (sH a (lg M m))]):=
 ag.Cy RR (fun _=>rfl) fun v H' h=>by
  obtain ⟨rfl,G,rfl⟩:=h;exact ⟨[0,1],sG (lg M m),HW (a:=a) fun _=>rfl,rfl,rfl⟩
theorem JT{a:Addr}{M:List (Int×Mem)}{u k ar:Int}:CP [] 138 [.lit (.pointer (some a)),iA u,.agg [iA k,uA ar]] [.res (sH a M)] (fun v H'=>v=iA (sB u k ar M).1/\H'=[.res (sH a (sB u k ar M).2)]):=
 ag.Cy Mz (fun _=>rfl) fun v H' h=>by
  obtain ⟨rfl,G,rfl⟩:=h;exact ⟨[0,1],sG _,HW (a:=a) fun _=>rfl,rfl,rfl⟩
theorem Vz:CP [] 131 [] [] (fun v H'=>∃a,v=.lit (.pointer (some a))/\H'=[.res (sH a [(0,⟨0,0,0,65535,0,0⟩)])]):=by
 refine ag.lower XV ?_;rintro _ _ ⟨rfl,G,rfl⟩;exact ⟨[],[0,1],1,1,sG _,[],⟨rfl,rfl,tU,⟨⟨_,rfl,rfl⟩,⟨_,rfl,rfl⟩,tU⟩,bc.cons _ (bc.cons _ (bc.all _)),fun _=>rfl⟩,rfl,fun a=>⟨a,rfl,rfl⟩⟩
end Go.Proofs.YtmbdghclhpboaaaGreat
