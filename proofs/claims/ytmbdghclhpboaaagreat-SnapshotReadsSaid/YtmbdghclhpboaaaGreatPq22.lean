/- Part of the proof: PtP Tok2 Tok3 Aud. Conditions: as each states. -/
import Derived.Test.YtmbdghclhpboaaaGreatPq21
set_option linter.all false
set_option maxRecDepth 100000
namespace Go.Proofs.YtmbdghclhpboaaaGreat
open Ev
structure PN where
 c:cD
 k0:Int
 k1:Int
 k2:Int
 k3:Int
 many:Int
 split:Bool
 l:List bW
 v:Value
def aD:Value:=.slice none 0 0
def PN.leaf(c:cD):PN:=⟨c,-1,-1,-1,-1,0,false,[],aD⟩
def PN.er(n:PN):PN:={ n with v:=aD }
def PN.sm(n:PN)(i:Int):Int:=if i=0 then n.k0 else if i=1 then n.k1 else if i=2 then n.k2 else n.k3
def PN.za(n:PN)(r:bW):Int:=
 let d:cD:=if decide (0<=n.c.l+1/\n.c.l+1<=16)&&fits r.x r.y then vL r.x r.y (n.c.l+1) else ⟨0,0,0⟩
 d.x % 2+d.y % 2 * 2
structure PS where
 ns:List PN
 fr:List Int
def dp(s:PS)(c:cD):PS×Int:=match s.fr.getLast? with
 | some i=>(⟨s.ns.set i.toNat (.leaf c),s.fr.dropLast⟩,i)
 | none=>(⟨s.ns++[.leaf c],s.fr⟩,s.ns.length)
def fZ:Nat->List PN->Nat->bW->List PN×Nat
 | 0,ns,i,_=>(ns,i)
 | f+1,ns,i,r=>match ns[i]? with
   | some n=>if n.split then fZ f (ns.set i { n with many:=IntKind.i64.wrap (n.many+1) }) (n.sm (n.za r)).toNat r else (ns,i)
   | none=>(ns,i)
def yO(f:PS->Nat->bW->PS)(s:PS)(i:Nat):PS:=match s.ns[i]? with
 | none=>s
 | some n=>
   let a:=dp s (n.c.child 0)
   let b:=dp a.1 (n.c.child 1)
   let c:=dp b.1 (n.c.child 2)
   let d:=dp c.1 (n.c.child 3)
   n.l.foldl (fun s r=>f s i r) ⟨d.1.ns.set i { n with k0:=a.2,k1:=b.2,k2:=c.2,k3:=d.2,many:=0,split:=true,l:=[],v:=aD },d.1.fr⟩
def ig(bk:Nat):Nat->PS->Nat->bW->PS
 | 0,s,_,_=>s
 | f+1,s,i,r=>
   let d:=fZ 17 s.ns i r
   match d.1[d.2]? with
   | none=>⟨d.1,s.fr⟩
   | some n=>
     let s1:PS:=⟨d.1.set d.2 { n with many:=IntKind.i64.wrap (n.many+1),l:=n.l++[r] },s.fr⟩
     if bk<n.l.length+1/\n.c.l<16 then yO (ig bk f) s1 d.2 else s1
structure wF(s:PS)(n:PN):Prop where
 lt:n.c.l<16
 sm:∀j:Int,0<=j->j<=3->∃(k:Nat) (m:PN),n.sm j=(k:Int)/\s.ns[k]?=some m/\m.c=n.c.child j/\(k:Int)∉s.fr
structure oK(bk:Nat)(x:Nat->Prop)(s:PS):Prop where
 cell:∀(i:Nat) (n:PN),s.ns[i]?=some n->n.c.right=true
 kids:∀(i:Nat) (n:PN),s.ns[i]?=some n->n.split=true->wF s n
 Kt:∀(i:Nat) (n:PN),s.ns[i]?=some n->¬x i->n.split=false->n.c.l<16->n.l.length<=bk
 free:∀x∈s.fr,∃k:Nat,x=(k:Int)/\k<s.ns.length
 NA:s.fr.Nodup
theorem nJ(n:PN)(r:bW):0<=n.za r/\n.za r<=3:=by
 unfold PN.za;simp only[];omega
theorem qS{c:cD}{j:Int}(h:c.right=true)(h1:c.l<16)(h0:0<=j)(h3:j<=3):(c.child j).right=true/\(c.child j).l=c.l+1:=by
 have hb:=cD.bd h;have hd:=dT1 h;have e:c.child j=⟨c.l+1,2 * c.x+j % 2,2 * c.y+j / 2⟩:=by
  unfold cD.child;rw[if_pos (by simp[h];exact ⟨by omega,h0,h3⟩)]
 have hp:p2 (c.l+1)=2 * p2 c.l:=by
  unfold p2;rw[show (c.l+1).toNat=c.l.toNat+1 by omega,Int.pow_succ];omega
 rw[e];refine ⟨decide_eq_true ⟨by show 0<=c.l+1;omega,by show c.l+1<=16;omega,by show 0<=2 * c.x+j % 2;omega,by show 0<=2 * c.y+j / 2;omega,?_,?_⟩,rfl⟩
 ·show 2 * c.x+j % 2<p2 (c.l+1)
  rw[hp];omega
 ·show 2 * c.y+j / 2<p2 (c.l+1)
  rw[hp];omega
def PN.alike(n m:PN):Prop:=m.c=n.c/\m.split=n.split/\m.k0=n.k0/\m.k1=n.k1/\m.k2=n.k2/\m.k3=n.k3
theorem PN.alike.sm{n m:PN}(h:n.alike m)(j:Int):m.sm j=n.sm j:=by
 obtain ⟨_,_,h0,h1,h2,h3⟩:=h;unfold PN.sm;rw[h0,h1,h2,h3]
section
variable{bk:Nat}{x:Nat->Prop}{s:PS}{i:Nat}{n m:PN}
theorem o6{α:Type}{l:List α}{i j:Nat}{x y:α}(h:(l.set i x)[j]?=some y):(j=i/\y=x/\i<l.length)\/(j≠i/\l[j]?=some y):=by
 rw[List.getElem?_set] at h;by_cases e:i=j
 ·subst e;rw[if_pos rfl] at h;split at h
  ·cases h;exact .inl ⟨rfl,rfl,by assumption⟩
  ·cases h
 ·rw[if_neg e] at h;exact .inr ⟨Ne.symm e,h⟩
theorem oK.turn(h:oK bk x s)(hn:s.ns[i]?=some n)(ha:n.alike m)(hf:¬x i->m.split=false->m.c.l<16->m.l.length<=bk):oK bk x ⟨s.ns.set i m,s.fr⟩:=by
 have tf:=(lE1.1 hn).1;have kk:∀q:PN,wF s q->wF ⟨s.ns.set i m,s.fr⟩ q:=fun q hq=>⟨hq.lt,fun j h0 h3=>by
  obtain ⟨k,y,h1,h2,h4,h5⟩:=hq.sm j h0 h3;by_cases e:i=k
  ·subst e;rw[h2] at hn;cases hn
   exact ⟨i,m,h1,by simp[tf],by rw[ha.1,h4],h5⟩
  ·exact ⟨k,y,h1,by simp only[];rw[List.getElem?_set,if_neg e];exact h2,h4,h5⟩⟩
 refine ⟨fun j q hq=>?_,fun j q hq hs=>?_,fun j q hq hj hs hl=>?_,fun x hx=>?_,h.NA⟩
 ·rcases o6 hq with ⟨_,rfl,_⟩|⟨_,hq⟩
  ·rw[ha.1];exact h.cell i n hn
  ·exact h.cell j q hq
 ·rcases o6 hq with ⟨_,rfl,_⟩|⟨_,hq⟩
  ·have h1:=h.kids i n hn (by rw[<-ha.2.1];exact hs);exact ⟨by rw[ha.1];exact h1.lt,fun j h0 h3=>by
    obtain ⟨k,x,h4⟩:=(kk n h1).sm j h0 h3;exact ⟨k,x,by rw[ha.sm,ha.1];exact h4⟩⟩
  ·exact kk q (h.kids j q hq hs)
 ·rcases o6 hq with ⟨P7,rfl,_⟩|⟨_,hq⟩
  ·exact hf (by rw[<-P7];exact hj) hs hl
  ·exact h.Kt j q hq hj hs hl
 ·obtain ⟨k,h1,h2⟩:=h.free x hx;exact ⟨k,h1,by simpa using h2⟩
theorem qv{r:bW}:∀(f:Nat) {s:PS} {i:Nat} {n:PN},oK bk x s->s.ns[i]?=some n->(i:Int)∉s.fr->17 - n.c.l<=f ->
  ∃m,(fZ f s.ns i r).1[(fZ f s.ns i r).2]?=some m/\m.split=false/\n.c.l<=m.c.l/\(n.split=true->n.c.l<m.c.l)/\oK bk x ⟨(fZ f s.ns i r).1,s.fr⟩/\(fZ f s.ns i r).1.length=s.ns.length/\(((fZ f s.ns i r).2:Nat):Int)∉s.fr /\
   (∀j:Nat,(fZ f s.ns i r).1[j]?.map (fun q:PN=>(q.c,q.split,q.k0,q.k1,q.k2,q.k3,q.l))=s.ns[j]?.map (fun q:PN=>(q.c,q.split,q.k0,q.k1,q.k2,q.k3,q.l)))
 | 0,s,i,n,h,hn,_,hf=>by
   have:=(cD.bd (h.cell i n hn)).2.1;omega
 | f+1,s,i,n,h,hn,hi,hf=>by
   simp only[fZ,hn];by_cases hs:n.split=true
   ·simp only[if_pos hs];have hk:=h.kids i n hn hs;have hw:=nJ n r;obtain ⟨k,m,h1,h2,h3,h4⟩:=hk.sm (n.za r) hw.1 hw.2;have hc:=qS (h.cell i n hn) hk.lt hw.1 hw.2;have h5:=h.turn (m:={ n with many:=IntKind.i64.wrap (n.many+1) }) hn ⟨rfl,rfl,rfl,rfl,rfl,rfl⟩ (fun _ hh=>by rw[hs] at hh;cases hh);have FV:k≠i:=fun e=>by
     rw[e,hn] at h2;cases h2
     rw[<-h3] at hc;omega
    rw[h1,Int.toNat_natCast];have h2':(s.ns.set i { n with many:=IntKind.i64.wrap (n.many+1) })[k]?=some m:=by rw[List.getElem?_set,if_neg (Ne.symm FV)];exact h2
    obtain ⟨q,g1,g2,g3,g4,g5,g6,g7,g8⟩:=qv (r:=r) f h5 h2' h4 (by rw[h3,hc.2];omega);rw[h3,hc.2] at g3;refine ⟨q,g1,g2,by omega,fun _=>by omega,g5,by rw[g6];simp,g7,fun j=>?_⟩;rw[g8 j];simp only[];rw[List.getElem?_set];split
    ·rename_i e;subst e;rw[hn];split
     ·rfl
     ·rename_i hl;exact absurd (lE1.1 hn).1 hl
    ·rfl
   ·simp only[if_neg hs];exact ⟨n,hn,by simpa using hs,Int.le_refl _,fun h=>absurd h hs,h,tU,hi,fun _=>trivial⟩
theorem uB{c:cD}(h:oK bk x s)(hc:c.right=true):∃k:Nat,(dp s c).2=(k:Int)/\(dp s c).1.ns[k]?=some (.leaf c)/\(k:Int)∉(dp s c).1.fr/\oK bk x (dp s c).1/\(∀(j:Nat) (q:PN),s.ns[j]?=some q->(j:Int)∉s.fr->(dp s c).1.ns[j]?=some q/\j≠k)/\(∀x∈(dp s c).1.fr,x∈s.fr)/\s.ns.length<=(dp s c).1.ns.length/\(dp s c).1.ns.length<=s.ns.length+1:=by
 have key:∀(k:Nat) (s':PS),s'.ns[k]?=some (.leaf c)->(∀j:Nat,j≠k->∀q:PN,s'.ns[j]?=some q->s.ns[j]?=some q)->(∀(j:Nat) (q:PN),s.ns[j]?=some q->(j:Int)∉s.fr->s'.ns[j]?=some q)->(∀x∈s'.fr,x∈s.fr)->s.ns.length<=s'.ns.length->s'.fr.Nodup->oK bk x s':=by
  intro k s' h1 h2 h3 h4 h5 h6;refine ⟨fun j q hq=>?_,fun j q hq hs=>?_,fun j q hq hj hs hl=>?_,fun x hx=>?_,h6⟩
  ·by_cases e:j=k
   ·subst e;rw[h1] at hq;cases hq;exact hc
   ·exact h.cell j q (h2 j e q hq)
  ·by_cases e:j=k
   ·subst e;rw[h1] at hq;cases hq;cases hs
   ·have hk:=h.kids j q (h2 j e q hq) hs;refine ⟨hk.lt,fun a ha0 Iv=>?_⟩;obtain ⟨b,m,g1,g2,g3,g4⟩:=hk.sm a ha0 Iv;exact ⟨b,m,g1,h3 b m g2 g4,g3,fun hx=>g4 (h4 _ hx)⟩
  ·by_cases e:j=k
   ·subst e;rw[h1] at hq;cases hq;exact Nat.zero_le _
   ·exact h.Kt j q (h2 j e q hq) hj hs hl
  ·obtain ⟨b,g1,g2⟩:=h.free x (h4 x hx);exact ⟨b,g1,by omega⟩
 unfold dp;cases hl:s.fr.getLast? with
 | none=>
   simp only[];have FR:s.fr=[]:=List.getLast?_eq_none_iff.1 hl;have h3:∀(j:Nat) (q:PN),s.ns[j]?=some q->(s.ns++[PN.leaf c])[j]?=some q:=fun j q hq=>by
    rw[List.getElem?_append_left (lE1.1 hq).1];exact hq
   refine ⟨s.ns.length,rfl,by simp,by rw[FR];simp,key s.ns.length _ (by simp) (fun j hj q hq=>?_) (fun j q hq _=>h3 j q hq) (fun x hx=>hx) (by simp) h.NA,fun j q hq _=>⟨h3 j q hq,fun e=>?_⟩,fun x hx=>hx,by simp,by simp⟩
   ·rcases Nat.lt_or_ge j s.ns.length with an|hge
    ·simp only[] at hq;rw[List.getElem?_append_left an] at hq;exact hq
    ·simp only[] at hq;have:=(lE1.1 hq).1;simp at this;omega
   ·have:=(lE1.1 hq).1;omega
 | some x=>
   simp only[];have hx:x∈s.fr:=List.mem_of_getLast? hl;obtain ⟨k,rfl,hk⟩:=h.free x hx;rw[Int.toNat_natCast];have cY:s.fr=s.fr.dropLast++[(k:Int)]:=by
    have aP:s.fr≠[]:=fun e=>by rw[e] at hx;simp at hx
    have:=List.dropLast_concat_getLast aP;rw[List.getLast?_eq_some_getLast aP] at hl;rw[Option.some.inj hl] at this;exact this.symm
   have nN:=h.NA;rw[cY,List.nodup_append] at nN;have hnk:(k:Int)∉s.fr.dropLast:=fun hm=>by
    have:=nN.2.2 _ hm (k:Int) (by simp);exact this rfl
   have nX:∀x∈s.fr.dropLast,x∈s.fr:=fun x hx=>List.dropLast_subset _ hx;have h3:∀(j:Nat) (q:PN),s.ns[j]?=some q->(j:Int)∉s.fr->(s.ns.set k (PN.leaf c))[j]?=some q/\j≠k:=fun j q hq hj=>by
    have:k≠j:=fun e=>hj (by rw[<-e];exact hx);exact ⟨by rw[List.getElem?_set,if_neg this];exact hq,Ne.symm this⟩
   refine ⟨k,rfl,by simp[hk],hnk,key k _ (by simp[hk]) (fun j hj q hq=>?_) (fun j q hq hj=>(h3 j q hq hj).1) nX (by simp) nN.1,h3,nX,by simp,by simp⟩;simp only[] at hq;rw[List.getElem?_set,if_neg (Ne.symm hj)] at hq;exact hq
end
def iN(ns:List PN):Nat:=(ns.map fun n=>n.l.length).sum
theorem J3(a b:List PN):iN (a++b)=iN a+iN b:=by unfold iN;rw[List.map_append,List.sum_append]
theorem nI:∀{ns:List PN} {i:Nat} {n:PN} (m:PN),ns[i]?=some n->iN (ns.set i m)+n.l.length=iN ns+m.l.length
 | [],_,_,_,h=>by simp at h
 | x::ns,0,n,m,h=>by
   simp at h;subst h;unfold iN;simp only[List.set_cons_zero,List.map_cons,List.sum_cons];omega
 | x::ns,i+1,n,m,h=>by
   have:=nI (ns:=ns) (i:=i) m (by simpa using h);unfold iN at this ⊢;simp only[List.set_cons_succ,List.map_cons,List.sum_cons];omega
theorem M6{ns:List PN}{i:Nat}{n:PN}(h:ns[i]?=some n):n.l.length<=iN ns:=by
 have:=nI n h;have:=nI (PN.leaf n.c) h;unfold PN.leaf at this;simp at this;omega
theorem uv{s:PS}{c:cD}:iN (dp s c).1.ns<=iN s.ns:=by
 unfold dp;cases s.fr.getLast? with
 | none=>simp only[];rw[J3];simp[iN,PN.leaf]
 | some x=>
   simp only[];cases h:s.ns[x.toNat]? with
   | none=>rw[List.set_eq_of_length_le (by simpa using h)];exact Nat.le_refl _
   | some n=>
     have:=nI (PN.leaf c) h;simp only[PN.leaf,List.length_nil,Nat.add_zero] at this ⊢;omega
theorem yj{r:bW}:∀(f:Nat) {ns:List PN} {i:Nat},iN (fZ f ns i r).1=iN ns
 | 0,ns,i=>rfl
 | f+1,ns,i=>by
   simp only[fZ];cases h:ns[i]? with
   | none=>rfl
   | some n=>
     simp only[];split
     ·rw[yj f];have:=nI { n with many:=IntKind.i64.wrap (n.many+1) } h;simp only[] at this;omega
     ·rfl
structure ya(s:PS)(i:Nat)(c:cD)(k:Nat):Prop where
 out:∃n,s.ns[i]?=some n/\n.c=c/\n.split=true/\(i:Int)∉s.fr/\∀j:Int,0<=j->j<=3->∃(q:Nat) (m:PN),n.sm j=(q:Int)/\s.ns[q]?=some m/\m.c=c.child j/\(q:Int)∉s.fr/\q≠i/\m.split=false/\m.l.length<=k
def pK(s s':PS):Prop:=∀(j:Nat) (q:PN),s.ns[j]?=some q->(j:Int)∉s.fr->(j:Int)∉s'.fr/\∃q',s'.ns[j]?=some q'/\q'.c=q.c/\(q.split=true->q'.split=true)
theorem pK.refl(s:PS):pK s s:=fun _ q h hj=>⟨hj,q,h,rfl,id⟩
theorem pK.trans{a b c:PS}(h:pK a b)(k:pK b c):pK a c:=fun j q hq hj=>by
 obtain ⟨h1,q1,h2,h3,h4⟩:=h j q hq hj;obtain ⟨k1,q2,k2,k3,k4⟩:=k j q1 h2 h1;exact ⟨k1,q2,k2,k3.trans h3,fun h=>k4 (h4 h)⟩
def rp(s:PS)(i:Nat)(n:PN):PS:=
 let a:=dp s (n.c.child 0)
 let b:=dp a.1 (n.c.child 1)
 let c:=dp b.1 (n.c.child 2)
 let d:=dp c.1 (n.c.child 3)
 ⟨d.1.ns.set i { n with k0:=a.2,k1:=b.2,k2:=c.2,k3:=d.2,many:=0,split:=true,l:=[],v:=aD },d.1.fr⟩
theorem Ew{f:PS->Nat->bW->PS}{s:PS}{i:Nat}{n:PN}(h:s.ns[i]?=some n):yO f s i=n.l.foldl (fun s r=>f s i r) (rp s i n):=by
 unfold yO;rw[h];rfl
theorem zJ{bk:Nat}{s:PS}{i:Nat}{n:PN}(h:oK bk (·=i) s)(hn:s.ns[i]?=some n)(hi:(i:Int)∉s.fr)(hs:n.split=false)(hl:n.c.l<16) :
  oK bk (fun _=>False) (rp s i n)/\ya (rp s i n) i n.c 0/\(rp s i n).ns.length<=s.ns.length+4/\iN (rp s i n).ns+n.l.length<=iN s.ns/\pK s (rp s i n):=by
 have hr:=h.cell i n hn;have hc:=fun j h0 h3=>qS (j:=j) hr hl h0 h3;obtain ⟨ka,a1,a2,a3,a4,a5,a6,a7,a8⟩:=uB h (hc 0 (by omega) (by omega)).1;obtain ⟨kb,b1,b2,b3,b4,b5,b6,b7,b8⟩:=uB a4 (hc 1 (by omega) (by omega)).1;obtain ⟨kc,c1,c2,c3,c4,c5,c6,c7,c8⟩:=uB b4 (hc 2 (by omega) (by omega)).1;obtain ⟨kd,d1,d2,d3,d4,d5,d6,d7,d8⟩:=uB c4 (hc 3 (by omega) (by omega)).1;have ta:=uv (s:=s) (c:=n.c.child 0);have tb:=uv (s:=(dp s (n.c.child 0)).1) (c:=n.c.child 1);have tc:=uv (s:=(dp (dp s (n.c.child 0)).1 (n.c.child 1)).1) (c:=n.c.child 2);have td:=uv (s:=(dp (dp (dp s (n.c.child 0)).1 (n.c.child 1)).1 (n.c.child 2)).1) (c:=n.c.child 3);obtain ⟨na,ea⟩:=a5 i n hn hi;have ia:(i:Int)∉(dp s (n.c.child 0)).1.fr:=fun hx=>hi (a6 _ hx);obtain ⟨nb,eb⟩:=b5 i n na ia;have ib:=fun hx=>ia (b6 _ hx);obtain ⟨nc,ec⟩:=c5 i n nb ib;have ic:=fun hx=>ib (c6 _ hx);obtain ⟨nd,ed⟩:=d5 i n nc ic;have yB:=fun hx=>ic (d6 _ hx);have ga:=(d5 _ _ (c5 _ _ (b5 _ _ a2 a3).1 (fun hx=>a3 (b6 _ hx))).1 (fun hx=>a3 (b6 _ (c6 _ hx)))).1;have gb:=(d5 _ _ (c5 _ _ b2 b3).1 (fun hx=>b3 (c6 _ hx))).1;have gc:=(d5 _ _ c2 c3).1;have fa:(ka:Int)∉_:=fun hx=>a3 (b6 _ (c6 _ (d6 _ hx)));have fb:(kb:Int)∉_:=fun hx=>b3 (c6 _ (d6 _ hx));have fc:(kc:Int)∉_:=fun hx=>c3 (d6 _ hx);unfold rp;simp only[];generalize dp (dp (dp (dp s (n.c.child 0)).1 (n.c.child 1)).1 (n.c.child 2)).1 (n.c.child 3)=d at *;generalize dp (dp (dp s (n.c.child 0)).1 (n.c.child 1)).1 (n.c.child 2)=c at *;generalize dp (dp s (n.c.child 0)).1 (n.c.child 1)=b at *;generalize dp s (n.c.child 0)=a at *;have tf:i<d.1.ns.length:=(lE1.1 nd).1;have jM:∀(j:Nat) (q:PN),s.ns[j]?=some q->(j:Int)∉s.fr->(j:Int)∉d.1.fr/\d.1.ns[j]?=some q:=fun j q hq hj=>by
  have e1:(j:Int)∉a.1.fr:=fun hx=>hj (a6 _ hx);have e2:(j:Int)∉b.1.fr:=fun hx=>e1 (b6 _ hx);have e3:(j:Int)∉c.1.fr:=fun hx=>e2 (c6 _ hx);exact ⟨fun hx=>e3 (d6 _ hx),(d5 j q (c5 j q (b5 j q (a5 j q hq hj).1 e1).1 e2).1 e3).1⟩
 have Vt:∀j:Int,0<=j->j<=3->∃(q:Nat) (m:PN),PN.sm { n with k0:=a.2,k1:=b.2,k2:=c.2,k3:=d.2,many:=0,split:=true,l:=[],v:=aD } j=(q:Int)/\d.1.ns[q]?=some m/\m.c=n.c.child j/\(q:Int)∉d.1.fr/\q≠i/\m.split=false/\m.l.length<=0:=by
  intro j h0 h3;unfold PN.sm;simp only[];rcases (by omega:j=0\/j=1\/j=2\/j=3) with rfl|rfl|rfl|rfl
  ·exact ⟨ka,_,by simpa using a1,ga,rfl,fa,Ne.symm ea,rfl,Nat.le_refl _⟩
  ·exact ⟨kb,_,by simpa using b1,gb,rfl,fb,Ne.symm eb,rfl,Nat.le_refl _⟩
  ·exact ⟨kc,_,by simpa using c1,gc,rfl,fc,Ne.symm ec,rfl,Nat.le_refl _⟩
  ·exact ⟨kd,_,by simpa using d1,d2,rfl,d3,Ne.symm ed,rfl,Nat.le_refl _⟩
 generalize hN:({ n with k0:=a.2,k1:=b.2,k2:=c.2,k3:=d.2,many:=0,split:=true,l:=[],v:=aD }:PN)=N at *;have NC:N.c=n.c:=by rw[<-hN]
 have Zs:N.split=true:=by rw[<-hN]
 have hNl:N.l=[]:=by rw[<-hN]
 have get:∀q m,d.1.ns[q]?=some m->q≠i->(d.1.ns.set i N)[q]?=some m:=fun q m hq aP=>by rw[List.getElem?_set,if_neg (Ne.symm aP)];exact hq
 have kk:∀q:PN,wF d.1 q->wF ⟨d.1.ns.set i N,d.1.fr⟩ q:=fun q hq=>⟨hq.lt,fun j h0 h3=>by
  obtain ⟨k,y,h1,h2,h4,h5⟩:=hq.sm j h0 h3;by_cases e:k=i
  ·subst e;rw[h2] at nd;cases nd
   exact ⟨k,N,h1,by simp[tf],by rw[NC,h4],h5⟩
  ·exact ⟨k,y,h1,get k y h2 e,h4,h5⟩⟩
 refine ⟨⟨fun j q hq=>?_,fun j q hq lK=>?_,fun j q hq _ lK DB=>?_,fun y hy=>?_,d4.NA⟩,⟨N,by simp[tf],NC,Zs,yB,fun j h0 h3=>?_⟩,by simp only[List.length_set];omega,?_,fun j q hq hj=>?_⟩
 ·rcases o6 hq with ⟨_,rfl,_⟩|⟨_,hq⟩
  ·rw[NC];exact hr
  ·exact d4.cell j q hq
 ·rcases o6 hq with ⟨_,rfl,_⟩|⟨_,hq⟩
  ·refine ⟨by rw[NC];exact hl,fun j h0 h3=>?_⟩;obtain ⟨q,m,g1,g2,g3,g4,g5,_⟩:=Vt j h0 h3;exact ⟨q,m,g1,get q m g2 g5,by rw[NC];exact g3,g4⟩
  ·exact kk q (d4.kids j q hq lK)
 ·rcases o6 hq with ⟨_,rfl,_⟩|⟨hj,hq⟩
  ·rw[Zs] at lK;cases lK
  ·exact d4.Kt j q hq hj lK DB
 ·obtain ⟨k,g1,g2⟩:=d4.free y hy;exact ⟨k,g1,by simpa using g2⟩
 ·obtain ⟨q,m,g1,g2,g3,g4,g5,g6⟩:=Vt j h0 h3;exact ⟨q,m,g1,get q m g2 g5,g3,g4,g5,g6⟩
 ·have:=nI N nd;rw[hNl] at this;simp only[List.length_nil] at this;omega
 ·obtain ⟨g1,g2⟩:=jM j q hq hj;refine ⟨g1,?_⟩;by_cases e:j=i
  ·subst e;rw[hn] at hq;cases hq
   exact ⟨N,by simp[tf],NC,fun h=>by rw[hs] at h;cases h⟩
  ·exact ⟨q,get j q g2 e,rfl,id⟩
theorem Cz{bk f:Nat}{s:PS}{i k:Nat}{c:cD}{r:bW}(hF:ya s i c k)(hk:k<bk):ya (ig bk (f+1) s i r) i c (k+1)/\(ig bk (f+1) s i r).ns.length=s.ns.length:=by
 obtain ⟨n,h1,h2,h3,h4,h5⟩:=hF.out;have hw:=nJ n r;obtain ⟨q,m,g1,g2,g3,g4,g5,g6,g7⟩:=h5 (n.za r) hw.1 hw.2;have e1:(s.ns.set i { n with many:=IntKind.i64.wrap (n.many+1) })[q]?=some m:=by rw[List.getElem?_set,if_neg (Ne.symm g5)];exact g2
 have hd:fZ 17 s.ns i r=(s.ns.set i { n with many:=IntKind.i64.wrap (n.many+1) },q):=by
  show fZ (15+1+1) s.ns i r=_
  simp only[fZ,h1,if_pos h3,g1,Int.toNat_natCast,e1,g6,Bool.false_eq_true,if_false]
 have hp:ig bk (f+1) s i r=⟨(s.ns.set i { n with many:=IntKind.i64.wrap (n.many+1) }).set q { m with many:=IntKind.i64.wrap (m.many+1),l:=m.l++[r] },s.fr⟩:=by
  simp only[ig,hd,e1];rw[if_neg (by omega)]
 rw[hp];have tf:=(lE1.1 h1).1;have DB:=(lE1.1 g2).1;refine ⟨⟨{ n with many:=IntKind.i64.wrap (n.many+1) },?_,h2,h3,h4,fun j h0 hj=>?_⟩,by simp⟩
 ·simp only[];rw[List.getElem?_set,if_neg g5];simp[tf]
 ·obtain ⟨q',m',e2,e3,e4,e5,e6,e7,e8⟩:=h5 j h0 hj;by_cases e:q=q'
  ·subst e;rw[g2] at e3;cases e3
   exact ⟨q,{ m with many:=IntKind.i64.wrap (m.many+1),l:=m.l++[r] },e2,by simp[DB],e4,e5,e6,e7,by simp;omega⟩
  ·refine ⟨q',m',e2,?_,e4,e5,e6,e7,by omega⟩;simp only[];rw[List.getElem?_set,if_neg e,List.getElem?_set,if_neg (Ne.symm e6)];exact e3
def iH(n:PN):Int:=if n.split then 15 - n.c.l else 16 - n.c.l
structure J8(bk:Nat)(s s':PS)(add:Int)(t:Nat):Prop where
 wf:oK bk (fun _=>False) s'
 keeps:pK s s'
 len:(s'.ns.length:Int)<=s.ns.length+add
 iN:iN s'.ns<=iN s.ns+t
theorem Ey{bk f i:Nat}{c:cD}(ih:∀(s:PS) (i:Nat) (n:PN) (r:bW),oK bk (fun _=>False) s->s.ns[i]?=some n->(i:Int)∉s.fr->1+iH n<=f->1<=f->J8 bk s (ig bk f s i r) (4 * iH n) 1)(hf:16 - c.l<=f)(FP:1<=f) :
  ∀(l:List bW) (s:PS) (k:Nat),oK bk (fun _=>False) s->ya s i c k->k+l.length<=bk+1->J8 bk s (l.foldl (fun s r=>ig bk f s i r) s) (4 * (15 - c.l)) l.length
 | [],s,k,h,hF,_=>by
   obtain ⟨n,h1,h2,h3,_⟩:=hF.out;have:=(h.kids i n h1 h3).lt;rw[h2] at this;exact ⟨h,.refl s,by simp only[List.foldl_nil];omega,Nat.le_refl _⟩
 | r::l,s,k,h,hF,hk=>by
   obtain ⟨n,h1,h2,h3,h4,_⟩:=hF.out;have hr:iH n=15 - c.l:=by unfold iH;rw[if_pos h3,h2]
   have h5:=ih s i n r h h1 h4 (by rw[hr];omega) FP;rw[hr] at h5;simp only[List.length_cons] at hk;simp only[List.foldl_cons,List.length_cons];by_cases FU:k<bk
   ·obtain ⟨f,rfl⟩:∃g,f=g+1:=⟨f - 1,by omega⟩;obtain ⟨h6,h7⟩:=Cz (f:=f) (r:=r) hF FU;have h8:=Ey ih hf FP l _ (k+1) h5.wf h6 (by omega);have a1:=h5.iN;have a2:=h8.iN;have a3:=h8.len;exact ⟨h8.wf,h5.keeps.trans h8.keeps,by omega,by omega⟩
   ·have:l=[]:=List.eq_nil_of_length_eq_zero (by omega);subst this;exact h5
theorem HV{bk f:Nat}{x:Nat->Prop}{r:bW}{s:PS}{i:Nat}{n:PN}(h:oK bk x s)(hn:s.ns[i]?=some n)(hi:(i:Int)∉s.fr)(hf:17 - n.c.l<=f):pK s ⟨(fZ f s.ns i r).1,s.fr⟩:=fun j q hq hj=>by
 obtain ⟨_,_,_,_,_,_,_,_,g8⟩:=qv (r:=r) f h hn hi hf;have:=g8 j;rw[hq] at this;refine ⟨hj,?_⟩;cases hd:(fZ f s.ns i r).1[j]? with
 | none=>rw[hd] at this;cases this
 | some q'=>
   rw[hd] at this;simp only[Option.map_some,Option.some.injEq,Prod.mk.injEq] at this;exact ⟨q',rfl,this.1,fun h=>by rw[this.2.1];exact h⟩
theorem Cw{bk:Nat}:∀(f:Nat) (s:PS) (i:Nat) (n:PN) (r:bW),oK bk (fun _=>False) s->s.ns[i]?=some n->(i:Int)∉s.fr->1+iH n<=f->1<=f->J8 bk s (ig bk f s i r) (4 * iH n) 1
 | 0,_,_,_,_,_,_,_,_,h1=>by omega
 | f+1,s,i,n,r,h,hn,hi,hf,_=>by
   have hb:=cD.bd (h.cell i n hn);obtain ⟨m,d1,d2,d3,d4,d5,d6,d7,d8⟩:=qv (r:=r) 17 h hn hi (by omega);have dk:=HV (r:=r) (f:=17) h hn hi (by omega);have dt:=yj (r:=r) 17 (ns:=s.ns) (i:=i);simp only[ig];generalize fZ 17 s.ns i r=d at *;rw[d1];simp only[];have Tr:=cD.bd (d5.cell _ _ d1);have ht:=nI { m with many:=IntKind.i64.wrap (m.many+1),l:=m.l++[r] } d1;simp only[List.length_append,List.length_cons,List.length_nil] at ht;have jN:16 - m.c.l<=iH n:=by
    unfold iH;split
    ·rename_i hs;have:=d4 hs;omega
    ·omega
   have jM:pK s ⟨d.1.set d.2 { m with many:=IntKind.i64.wrap (m.many+1),l:=m.l++[r] },s.fr⟩:=dk.trans fun j q hq hj=>by
    refine ⟨hj,?_⟩;simp only[] at hq ⊢;by_cases e:d.2=j
    ·subst e;rw[d1] at hq;cases hq
     exact ⟨{ m with many:=IntKind.i64.wrap (m.many+1),l:=m.l++[r] },by rw[List.getElem?_set,if_pos rfl,if_pos (lE1.1 d1).1],rfl,id⟩
    ·exact ⟨q,by rw[List.getElem?_set,if_neg e];exact hq,rfl,id⟩
   by_cases hc:bk<m.l.length+1/\m.c.l<16
   ·rw[if_pos hc];have w1:oK bk (·=d.2) (⟨d.1,s.fr⟩:PS):=⟨d5.cell,d5.kids,fun j q hq _ hs hl=>d5.Kt j q hq id hs hl,d5.free,d5.NA⟩;have w2:=w1.turn (m:={ m with many:=IntKind.i64.wrap (m.many+1),l:=m.l++[r] }) d1 ⟨rfl,rfl,rfl,rfl,rfl,rfl⟩ (fun hx=>absurd rfl hx);have tn:=d5.Kt _ _ d1 id d2 hc.2;have fP:(d.1.set d.2 { m with many:=IntKind.i64.wrap (m.many+1),l:=m.l++[r] })[d.2]?=some { m with many:=IntKind.i64.wrap (m.many+1),l:=m.l++[r] }:=by rw[List.getElem?_set,if_pos rfl,if_pos (lE1.1 d1).1]
    obtain ⟨p1,p2,p3,p4,p5⟩:=zJ w2 fP d7 d2 hc.2;rw[Ew (s:=⟨d.1.set d.2 { m with many:=IntKind.i64.wrap (m.many+1),l:=m.l++[r] },s.fr⟩) fP];have q1:=Ey (Cw f) (by simp only[];omega) (by omega) (m.l++[r]) _ 0 p1 p2 (by simp;omega);have q2:=q1.len;have q3:=q1.iN;simp only[List.length_append,List.length_cons,List.length_nil,List.length_set] at p3 p4 q2 q3;exact ⟨q1.wf,jM.trans (p5.trans q1.keeps),by simp only[List.length_append,List.length_cons,List.length_nil] at *;omega,by simp only[List.length_append,List.length_cons,List.length_nil] at *;omega⟩
   ·rw[if_neg hc];refine ⟨d5.turn d1 ⟨rfl,rfl,rfl,rfl,rfl,rfl⟩ fun _ _ hl=>?_,jM,?_,by simp only[];omega⟩
    ·simp only[List.length_append,List.length_cons,List.length_nil] at hl ⊢;omega
    ·simp only[List.length_set];omega
abbrev JT:TypeId:=296
abbrev E4:TypeId:=293
def ub(l:List cy)(n:Nat):List ai:=.cells [sx 1 10 n] JT::Al (l.flatMap tC) E4 n
def Dp(l:List cy)(s:Nat):Int:=match mY l s with
 | some i=>i
 | none=>-1
theorem Kc(l:List cy)(s:Nat):pP s (l.map fun k=>k.bH)=Dp l s:=by
 unfold pP Dp mY;rw[List.findIdx?_map];rfl
def O2(l:List cy):Prop:=l.length<=8/\∀k∈l,k.bH<18446744073709551616/\k.parent<18446744073709551616
theorem Oy{l:List cy}{n:Nat}{c:pe}(hn:l.length=n+1)(hl:l.length<=1000) :
  CP [] 261 [.ptr 0 0,.lit (.func (.func 262) #[] #[])] [.cells [.slice 1 0 (n+1) c] JT,.row (l.flatMap tC) E4] (fun v H'=>v=.slice 2 0 (n+1) (.grown 1)/\H'=[.cells [.slice 1 0 (n+1) c] JT,.row (l.flatMap tC) E4,.row (l.map fun k=>uC k.bH) 47]):=by
 rw[<-hn];exact Sh hl fun m hm=>by
  obtain rfl:m=n+1:=by omega
  rw[hn];exact ⟨rfl,rfl⟩
theorem Ox:CP [] 261 [.ptr 0 0,.lit (.func (.func 262) #[] #[])] (ub [] 0) (fun v H'=>v=.lit (.slice none 0 0)/\H'=ub [] 0):=by
 refine ag aa rfl ?_;conv=>whnf
 refine bS.loop 1 (bS.step aa rfl ?_);conv=>whnf
 exact ⟨rfl,rfl⟩
theorem US{s:Nat}:CP [] 275 [.lit (.slice none 0 0),uA s] [] (fun v _=>v=.tuple [iA (-1),iA 0]):=by
 refine ag aa rfl ?_;conv=>whnf
 refine bS.loop 1 (bS.step aa rfl ?_);conv=>whnf
theorem UR{l:List Nat}{n s:Nat}{c:pe}(hn:l.length=n+1)(hl:l.length<=1000)(hb:∀x∈l,x<18446744073709551616)(hs:s<18446744073709551616):CP [] 275 [.slice 0 0 (n+1) c,uA s] [.row (l.map uC) 47] (fun v H'=>v=.tuple [iA (pP s l),iA (8 * l.length)]/\H'=[.row (l.map uC) 47]):=by
 rw[<-hn];exact UQ hl hb hs ⟨rfl,rfl⟩
theorem UZ{l:List cy}{n s:Nat}(hn:l.length=n)(h:O2 l)(hs:s<18446744073709551616):CP [] 188 [.ptr 0 0,uA s] (ub l n) (fun v H'=>v=iA (Dp l s)/\∃G,H'=ub l n++G):=by
 refine ag aa rfl ?_;rcases n with _|n
 ·obtain rfl:=List.eq_nil_of_length_eq_zero hn;conv=>whnf
  refine Ox.use [0] rfl rfl ⟨⟨_,rfl,rfl⟩,tU⟩ ?_;rintro _ _ ⟨rfl,rfl⟩;refine ⟨[],?_⟩;conv=>whnf
  refine (US (s:=s)).use [] rfl rfl trivial ?_;rintro _ _ rfl;refine ⟨[],?_⟩;conv=>whnf
  exact ⟨congrArg iA (by unfold Dp mY;split<;>simp_all),[],rfl⟩
 ·conv=>whnf
  refine (Oy hn (by have:=h.1;omega)).use [0,1] rfl rfl ⟨⟨_,rfl,rfl⟩,⟨_,rfl,rfl⟩,tU⟩ ?_;rintro _ _ ⟨rfl,rfl⟩;refine ⟨[2],?_⟩;conv=>whnf
  refine (UR (l:=l.map fun k=>k.bH) (by simpa using hn) (by simp;have:=h.1;omega) (by simpa using fun k hk=>(h.2 k hk).1) hs).use [2] rfl rfl ⟨⟨_,rfl,by simp[List.map_map];rfl⟩,tU⟩ ?_;rintro _ _ ⟨rfl,rfl⟩;refine ⟨[],?_⟩;conv=>whnf
  exact ⟨congrArg iA (Kc l s),_,rfl⟩
theorem SK(l:List cy)(s:Nat):decide (Dp l s>=0)=(mY l s).isSome:=by
 unfold Dp;cases h:mY l s<;>simp
theorem SL(l:List cy)(s:Nat):decide (Dp l s<0)=(mY l s).isNone:=by
 unfold Dp;cases h:mY l s with
 | none=>simp
 | some i=>simp
theorem Hl:iO ev 294 E4 10:=⟨⟨_,rfl,rfl⟩,_,_,rfl,rfl,rfl,rfl,by decide⟩
theorem O2.take{l:List cy}(h:O2 l)(k:Nat):O2 (l.take k):=⟨by rw[List.length_take];have:=h.1;omega,fun x hx=>h.2 x (List.mem_of_mem_take hx)⟩
theorem OI(acc:List cy)(k:cy):(!k.g.right || decide (k.bH=0) || (mY acc k.bH).isSome || (decide (k.parent≠0)&&(mY acc k.parent).isNone))=(!k.g.right || ((k.bH:Int)==0) || decide (Dp acc k.bH>=0) || (!((k.parent:Int)==0)&&decide (Dp acc k.parent<0))):=by
 rw[SK,SL];have e:∀n:Nat,((n:Int)==0)=decide (n=0):=fun n=>by rw[Bool.eq_iff_iff];simp
 rw[e,e];simp
section
variable{r z a p b:Bool}
theorem YX(h:r=false):(!r || z || a || (p&&b))=true:=by rw[h];rfl
theorem YY(h:z=true):(!r || z || a || (p&&b))=true:=by rw[h];simp
theorem YZ(h:a=true):(!r || z || a || (p&&b))=true:=by rw[h];simp
theorem Y0(h:p=true)(h':b=true):(!r || z || a || (p&&b))=true:=by rw[h,h'];simp
theorem Y1(h:r=true)(h1:z=false)(h2:a=false)(h3:p=false):¬(!r || z || a || (p&&b))=true:=by rw[h,h1,h2,h3];simp
theorem Y2(h:r=true)(h1:z=false)(h2:a=false)(h3:b=false):¬(!r || z || a || (p&&b))=true:=by rw[h,h1,h2,h3];simp
end
def sa(k:cy):Value:=.agg (tC k).toArray
theorem U6{l:List cy}{n c:Nat}{R:aC}{oa:Option Addr}(hn:l.length=n+1)(hx:cU Tryz.prog R 96 10 oa sa l)(hb:∀k∈l,k.bH<18446744073709551616/\k.parent<18446744073709551616) :
  CP [] 136 [.lit (.slice oa (n+1) c)] [.res R] (fun v H'=>match cw l with
   | some _=>v=.tuple [.ptr 1 0,iA 0]/\∃G,H'=.res R::.cells [.slice 2 0 (n+1) (.grown 10)] JT::.row (l.flatMap tC) E4::G
   | none=>v=.tuple [.lit (.pointer none),iA 1]/\∃G,H'=.res R::G):=by
 refine ag aa rfl ?_;repeat' ((conv=>whnf);first|with_reducible apply af<;>intro _|refine aM.drawn aa rfl rfl ?_|with_reducible refine And.intro (aN.mk ⟨_,rfl,rfl⟩) ?_|refine ag aa rfl ?_)
 all_goals conv=>whnf
 ·rename_i h;have h:8<l.length:=by have:=dT1 h;omega
  unfold cw;rw[if_pos h];exact ⟨rfl,_,rfl⟩
 ·rename_i h;have h8:l.length<=8:=by have:=dF1 h;omega
  have hT:O2 l:=⟨h8,hb⟩;have hf:cw l=ef l []:=by unfold cw;rw[if_neg (by omega)]
  refine aV aa rfl (fun k:Nat=>[(4,.ptr 1 0),(11,.lit (.slice oa (n+1) c)),(12,iA ((n+1:Nat):Int)),(13,iA (k:Nat))]) (fun k=>[.res R,.cells [sx 2 10 k] JT]++Al ((l.take k).flatMap tC) E4 k)
   (fun k=>k<=n+1/\cw l=ef (l.drop k) (l.take k)) (fun k=>n+1 - k) 0 ⟨by omega,hf⟩ [0,1] ?_ ?_
  ·exact ⟨rfl,⟨rr,rr,rr,rr,tU⟩,⟨ko,⟨_,rfl,rfl⟩,tU⟩⟩
  ·rintro k ⟨gl,sZ⟩;by_cases hk:k<n+1
   ·have cT:k<l.length:=by omega
    have hs:=bq cT;have hd:l.drop k=l[k]::l.drop (k+1):=(List.drop_eq_getElem_cons cT);rw[hd] at sZ;simp only[ef] at sZ;rw[<-hs,OI] at sZ;have Tp:=hb _ (List.getElem_mem cT);obtain ⟨a,rfl,bu⟩:=hx.at cT;rcases k with _|k
    ·conv=>whnf
     refine af (fun _=>?_) (bT hk);conv=>whnf
     refine al.bC aa rfl rfl rfl rfl rfl hk ?_;conv=>whnf
     refine al.aR (i:=0) (v:=.agg ((tC l[_]).map .lit)) rfl (fun w S hR=>bu w S hR _ cT) rfl rfl ?_;repeat' ((conv=>whnf);first|with_reducible apply af<;>intro _|refine aM.drawn aa rfl rfl ?_|with_reducible refine And.intro (aN.mk ⟨_,rfl,rfl⟩) ?_|refine JJ (g:=l[0].g) ?_|(refine (UZ (l:=l.take (0)) (n:=0) (by simp<;>omega) (hT.take (0)) Tp.1).use [1] rfl rfl ⟨⟨_,rfl,rfl⟩,tU⟩ ?_;rintro _ _ ⟨rfl,G,rfl⟩;refine ⟨[],?_⟩)|(refine (UZ (l:=l.take (0)) (n:=0) (by simp<;>omega) (hT.take (0)) Tp.2).use [1] rfl rfl ⟨⟨_,rfl,rfl⟩,tU⟩ ?_;rintro _ _ ⟨rfl,G,rfl⟩;refine ⟨[],?_⟩)|refine dx.nil Hl rfl rfl rfl rfl rfl ?_|refine ag aa rfl ?_)
     all_goals (try conv=>whnf)
     all_goals first
      | (rw[sZ];first|rw[if_pos (YX (by assumption))]|rw[if_pos (YY (by assumption))]|rw[if_pos (YZ (by assumption))]|rw[if_pos (Y0 (by assumption) (by assumption))]
         exact ⟨rfl,_,rfl⟩)
      | (first|rw[if_neg (Y1 (by assumption) (by assumption) (by assumption) (by assumption))] at sZ|rw[if_neg (Y2 (by assumption) (by assumption) (by assumption) (by assumption))] at sZ
         exact ⟨0+1,[0,1,4],⟨⟨hk,sZ⟩,by omega⟩,rfl,⟨rr,rr,rr,⟨rfl,ax rfl rfl⟩,tU⟩,⟨ko,⟨_,rfl,rfl⟩,⟨_,rfl,by rw[hs,List.flatMap_append];rfl⟩,tU⟩⟩)
      | trace_state
    ·conv=>whnf
     refine af (fun _=>?_) (bT hk);conv=>whnf
     refine al.bC aa rfl rfl rfl rfl rfl hk ?_;conv=>whnf
     refine al.aR (i:=0) (v:=.agg ((tC l[_]).map .lit)) rfl (fun w S hR=>bu w S hR _ cT) rfl rfl ?_;repeat' ((conv=>whnf);first|with_reducible apply af<;>intro _|refine aM.drawn aa rfl rfl ?_|with_reducible refine And.intro (aN.mk ⟨_,rfl,rfl⟩) ?_|refine JJ (g:=l[k+1].g) ?_|(refine (UZ (l:=l.take (k+1)) (n:=k+1) (by simp<;>omega) (hT.take (k+1)) Tp.1).use [1,2] rfl rfl ⟨⟨_,rfl,rfl⟩,⟨_,rfl,rfl⟩,tU⟩ ?_;rintro _ _ ⟨rfl,G,rfl⟩;refine ⟨[],?_⟩)|(refine (UZ (l:=l.take (k+1)) (n:=k+1) (by simp<;>omega) (hT.take (k+1)) Tp.2).use [1,2] rfl rfl ⟨⟨_,rfl,rfl⟩,⟨_,rfl,rfl⟩,tU⟩ ?_;rintro _ _ ⟨rfl,G,rfl⟩;refine ⟨[],?_⟩)|refine dx.own Hl rfl rfl rfl rfl rfl rfl (by rw[eC xU,List.length_take];omega) (by omega) ?_|refine ag aa rfl ?_)
     all_goals (try conv=>whnf)
     all_goals first
      | (rw[sZ];first|rw[if_pos (YX (by assumption))]|rw[if_pos (YY (by assumption))]|rw[if_pos (YZ (by assumption))]|rw[if_pos (Y0 (by assumption) (by assumption))]
         exact ⟨rfl,_,rfl⟩)
      | (first|rw[if_neg (Y1 (by assumption) (by assumption) (by assumption) (by assumption))] at sZ|rw[if_neg (Y2 (by assumption) (by assumption) (by assumption) (by assumption))] at sZ
         exact ⟨k+1+1,[0,1,5],⟨⟨hk,sZ⟩,by omega⟩,rfl,⟨rr,rr,rr,⟨rfl,ax rfl (ak (by omega) (by omega))⟩,tU⟩,⟨ko,⟨_,rfl,rfl⟩,⟨_,rfl,by rw[hs,List.flatMap_append];rfl⟩,tU⟩⟩)
      | trace_state
   ·obtain rfl:k=n+1:=by omega
    rw[<-hn,List.drop_length,List.take_length] at sZ;rw[show (l.take (n+1))=l by rw[<-hn,List.take_length],sZ];conv=>whnf
    refine af (cF hk) (fun _=>?_);conv=>whnf
    exact ⟨rfl,_,rfl⟩
theorem Ss{oa:Option Addr}{c:Nat}{H:List ai}:CP [] 136 [.lit (.slice oa 0 c)] [] (fun v H'=>v=.tuple [.ptr 0 0,iA 0]/\∃G,H'=ub [] 0++G):=by
 refine ag aa rfl ?_;repeat' ((conv=>whnf);first|with_reducible apply af<;>intro _|refine ag aa rfl ?_)
 all_goals conv=>whnf
 refine bS.loop 1 (bS.step aa rfl ?_);conv=>whnf
 exact ⟨rfl,[],rfl⟩
def xV(a:Addr)(l:List cy):aC:=AtR a 0 (ub l l.length)
theorem U5{R:aC}{oa:Option Addr}{c:Nat}{l:List cy}(hx:cU Tryz.prog R 96 10 oa sa l)(hb:∀k∈l,k.bH<18446744073709551616/\k.parent<18446744073709551616) :
  CP [] 136 [.lit (.slice oa l.length c)] [.res R] (fun v H'=>match cw l with
   | some _=>∃a,v=.tuple [.lit (.pointer (some a)),iA 0]/\H'=[.res R,.res (xV a l)]
   | none=>v=.tuple [.lit (.pointer none),iA 1]/\∃G,H'=.res R::G):=by
 rcases l with _|⟨k,l⟩
 ·have h0:cw []=some []:=rfl;rw[h0];refine aj.lower (K':=fun v H'=>v=.tuple [.ptr 1 0,iA 0]/\∃G,H'=.res R::ub [] 0++G) ?_ ?_
  ·refine (Ss (oa:=oa) (c:=c) (H:=[])).use [] rfl rfl trivial ?_;rintro _ _ ⟨rfl,G,rfl⟩;refine ⟨[0],?_⟩;conv=>whnf
   exact ⟨rfl,[],rfl⟩
  ·rintro _ _ ⟨rfl,G,rfl⟩;refine ⟨[0],[1],1,0,ub [] 0,[iA 0],⟨rfl,rfl,⟨⟨_,rfl,rfl⟩,tU⟩,⟨⟨_,rfl,rfl⟩,tU⟩,?_,fun _=>rfl⟩,rfl,fun a=>⟨a,rfl,rfl⟩⟩;exact bj.cons R (bj.cons aB (bj.all _))
 ·have h1:=U6 (n:=l.length) (c:=c) rfl hx hb;cases hf:cw (k::l) with
  | none=>
    rw[hf] at h1;exact h1
  | some q=>
    rw[hf] at h1;refine aj.lower h1 ?_;rintro _ _ ⟨rfl,G,rfl⟩;refine ⟨[0],[1,2],1,0,ub (k::l) (l.length+1),[iA 0],⟨rfl,rfl,⟨⟨_,rfl,rfl⟩,tU⟩,⟨⟨_,rfl,rfl⟩,⟨_,rfl,rfl⟩,tU⟩,?_,fun _=>rfl⟩,rfl,fun a=>⟨a,rfl,rfl⟩⟩;exact bj.cons R (bj.cons aB (bj.cons aB (bj.all _)))
def qg(e:fS):List Value:=[.int .i64 e.user,.int .i64 e.op,.int .i64 e.status,.int .i64 e.tick]
theorem wS(e:fS):(qg e).length=4:=rfl
abbrev UX:TypeId:=81
abbrev Sp:TypeId:=241
theorem As:iO ev 26 UX 4:=⟨⟨_,rfl,rfl⟩,_,_,rfl,rfl,rfl,rfl,by decide⟩
def J5(es:List fS)(past:Int)(n:Nat):List ai:=.cells [sx 1 4 n,iA past] Sp::Al (es.flatMap qg) UX n
def Ao(a:Addr)(es:List fS)(past:Int):aC:=AtR a 0 (J5 es past es.length)
theorem V7{a:Addr}{es:List fS}{past:Int}{e:fS}(hl:es.length<=60000):CP [] 56 [.lit (.pointer (some a)),.agg (Bt e)] [.res (Ao a es past)] (fun v H'=>v=bA true/\H'=[.res (Ao a (es++[e]) past)]):=by
 rcases es with _|⟨e0,es⟩
 ·refine aj.DG (K':=fun v H'=>v=bA true/\∃A B,H'=[.cells [.slice 3 0 1 (.grown 4),iA past] Sp,A,B,.row (qg e) UX]/\iI A=aB/\iI B=aB) ?_ (fun _=>rfl) ?_
  ·refine ag aa rfl ?_;repeat' ((conv=>whnf);first|with_reducible apply af<;>intro _|refine aM.drawn aa rfl rfl ?_|with_reducible refine And.intro (aN.mk ⟨_,rfl,rfl⟩) ?_|refine dx.nil As rfl rfl rfl rfl rfl ?_)
   conv=>whnf
   exact ⟨rfl,_,_,rfl,rfl,rfl⟩
  ·rintro _ _ ⟨rfl,A,B,rfl,hA,hB⟩;refine ⟨[0,3],J5 ([]++[e]) past 1,⟨rfl,rfl,⟨⟨_,rfl,rfl⟩,⟨_,rfl,by simp[pL,ny,ai.cI,vw,qg]⟩,tU⟩,?_,fun _=>rfl⟩,rfl,rfl⟩;exact bj.cons _ (bj.I0 _ |>.trans (bj.cons _ (bj.all _)))
 ·refine aj.DG (K':=fun v H'=>v=bA true/\∃A B,H'=[.cells [.slice 4 0 (es.length+1+1) (.grown 4),iA past] Sp,.dead,A,B,.row ((e0::es).flatMap qg++qg e) UX]/\iI A=aB/\iI B=aB) ?_ (fun _=>rfl) ?_
  ·refine ag aa rfl ?_;repeat' ((conv=>whnf);first|with_reducible apply af<;>intro _|refine aM.drawn aa rfl rfl ?_|with_reducible refine And.intro (aN.mk ⟨_,rfl,rfl⟩) ?_|refine dx.own As rfl rfl rfl rfl rfl rfl (by rw[eC wS];rfl) (by simp at hl;omega) ?_)
   conv=>whnf
   exact ⟨rfl,_,_,rfl,rfl,rfl⟩
  ·rintro _ _ ⟨rfl,A,B,rfl,hA,hB⟩;refine ⟨[0,4],J5 (e0::es++[e]) past (es.length+1+1),⟨rfl,rfl,⟨⟨_,rfl,rfl⟩,⟨_,rfl,by rw[List.flatMap_append];rfl⟩,tU⟩,?_,fun _=>rfl⟩,rfl,?_⟩
   ·exact bj.cons _ (bj.I0 _ |>.trans (bj.cons _ (bj.all _)))
   ·unfold Ao;rw[show (e0::es++[e]).length=es.length+1+1 by simp]
def rL(past n:Int):Bool×Int:=if n<0\/4611686018427387903 - past<n then (false,past) else (true,past+n)
theorem V8{a:Addr}{es:List fS}{past n:Int}(hp:0<=past/\past<=4611686018427387903):CP [] 55 [.lit (.pointer (some a)),iA n] [.res (Ao a es past)] (fun v H'=>v=bA (rL past n).1/\H'=[.res (Ao a es (rL past n).2)]):=by
 have hw:IntKind.i64.wrap (4611686018427387903 - past)=4611686018427387903 - past:=ak (by omega) (by omega);rcases hn:es.length with _|k;all_goals
  unfold Ao
  rw[hn]
  refine aj.DG (K':=fun v H'=>v=bA (rL past n).1/\H'=J5 es (rL past n).2 es.length) ?_ (fun _=>rfl) ?_
  ·rw[hn]
   refine ag aa rfl ?_
   repeat' ((conv=>whnf);with_reducible apply af<;>intro _)
   all_goals conv=>whnf
   all_goals
    simp only[hw,decide_eq_true_eq,decide_eq_false_iff_not] at *
    unfold rL
   ·rw[if_pos (by omega)];exact ⟨rfl,rfl⟩
   ·rw[if_pos (by omega)];exact ⟨rfl,rfl⟩
   ·rw[if_neg (by omega),ak (n:=past+n) (by omega) (by omega)];exact ⟨rfl,rfl⟩
  ·rintro _ _ ⟨rfl,rfl⟩
   rw[hn]
   first
    | exact ⟨[0],J5 es (rL past n).2 0,⟨rfl,rfl,⟨⟨_,rfl,rfl⟩,tU⟩,.refl _,fun _=>rfl⟩,rfl,rfl⟩
    | exact ⟨[0,1],J5 es (rL past n).2 (k+1),⟨rfl,rfl,⟨⟨_,rfl,rfl⟩,⟨_,rfl,rfl⟩,tU⟩,.refl _,fun _=>rfl⟩,rfl,rfl⟩
theorem YM:CP [] 135 [] [] (fun v H'=>∃a,v=.lit (.pointer (some a))/\H'=[.res (Ao a [] 0)]):=by
 refine aj.lower (K':=fun v H'=>v=.ptr 0 0/\H'=J5 [] 0 0) ?_ ?_
 ·refine ag aa rfl ?_;repeat' ((conv=>whnf);with_reducible apply af<;>intro _)
  exact ⟨rfl,rfl⟩
 ·rintro _ _ ⟨rfl,rfl⟩;exact ⟨[],[0],0,0,J5 [] 0 0,[],⟨rfl,rfl,tU,⟨⟨_,rfl,rfl⟩,tU⟩,.refl _,fun _=>rfl⟩,rfl,fun a=>⟨a,rfl,rfl⟩⟩
def tP(a:Addr)(M:List (Int×Mem)):aC:=AtR a 1 (tO M)
theorem Jp{a:Addr}{M:List (Int×Mem)}{G:List ai}{v:AV}(hv:∀g,v.cI g=v):DP [0,1] 1 (tO M++G) (tO M) v:=
 ⟨rfl,rfl,⟨⟨_,rfl,rfl⟩,⟨_,rfl,rfl⟩,tU⟩,bj.cons _ (bj.cons _ (bj.all _)),hv⟩
theorem Ry{a:Addr}{M:List (Int×Mem)}{m:Mem}:CP [] 137 [.lit (.pointer (some a)),.agg (mA m)] [.res (tP a M)] (fun v H'=>v=iA (FC M m)/\H'=[.res (tP a (lR M m))]):=
 aj.DG Uw (fun _=>rfl) fun v H' h=>by
  obtain ⟨rfl,G,rfl⟩:=h;exact ⟨[0,1],tO (lR M m),Jp (a:=a) fun _=>rfl,rfl,rfl⟩
theorem Lo{a:Addr}{M:List (Int×Mem)}{u k ar:Int}:CP [] 138 [.lit (.pointer (some a)),iA u,.agg [iA k,uA ar]] [.res (tP a M)] (fun v H'=>v=iA (tJ u k ar M).1/\H'=[.res (tP a (tJ u k ar M).2)]):=
 aj.DG Ot (fun _=>rfl) fun v H' h=>by
  obtain ⟨rfl,G,rfl⟩:=h;exact ⟨[0,1],tO _,Jp (a:=a) fun _=>rfl,rfl,rfl⟩
theorem Yc:CP [] 131 [] [] (fun v H'=>∃a,v=.lit (.pointer (some a))/\H'=[.res (tP a [(0,⟨0,0,0,65535,0,0⟩)])]):=by
 refine aj.lower aav ?_;rintro _ _ ⟨rfl,G,rfl⟩;exact ⟨[],[0,1],1,1,tO _,[],⟨rfl,rfl,tU,⟨⟨_,rfl,rfl⟩,⟨_,rfl,rfl⟩,tU⟩,bj.cons _ (bj.cons _ (bj.all _)),fun _=>rfl⟩,rfl,fun a=>⟨a,rfl,rfl⟩⟩
