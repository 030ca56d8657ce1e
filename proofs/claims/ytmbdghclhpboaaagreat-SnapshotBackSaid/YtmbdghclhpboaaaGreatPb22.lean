/- Part of the proof: PtP Tok2 Tok3 Aud. Conditions: as each states. -/
import Derived.Test.YtmbdghclhpboaaaGreatPb21
set_option linter.all false
set_option maxRecDepth 100000
namespace Go.Proofs.YtmbdghclhpboaaaGreat
open Ev
structure PN where
 c:Cel
 k0:Int
 k1:Int
 k2:Int
 k3:Int
 many:Int
 split:Bool
 l:List Rcd
 v:Value
def nilV:Value:=.slice none 0 0
def PN.leaf(c:Cel):PN:=⟨c,-1,-1,-1,-1,0,false,[],nilV⟩
def PN.er(n:PN):PN:={ n with v:=nilV }
def PN.kid(n:PN)(i:Int):Int:=if i=0 then n.k0 else if i=1 then n.k1 else if i=2 then n.k2 else n.k3
def PN.way(n:PN)(r:Rcd):Int:=
 let d:Cel:=if decide (0≤n.c.l+1∧n.c.l+1≤16)&&fits r.x r.y then ofC r.x r.y (n.c.l+1) else ⟨0,0,0⟩
 d.x % 2+d.y % 2 * 2
structure PS where
 ns:List PN
 fr:List Int
def leafM(s:PS)(c:Cel):PS×Int:=match s.fr.getLast? with
 | some i=>(⟨s.ns.set i.toNat (.leaf c),s.fr.dropLast⟩,i)
 | none=>(⟨s.ns++[.leaf c],s.fr⟩,s.ns.length)
def downM:Nat→List PN→Nat→Rcd→List PN×Nat
 | 0,ns,i,_=>(ns,i)
 | f+1,ns,i,r=>match ns[i]? with
   | some n=>if n.split then downM f (ns.set i { n with many:=IntKind.i64.wrap (n.many+1) }) (n.kid (n.way r)).toNat r else (ns,i)
   | none=>(ns,i)
def partM(f:PS→Nat→Rcd→PS)(s:PS)(i:Nat):PS:=match s.ns[i]? with
 | none=>s
 | some n=>
   let a:=leafM s (n.c.child 0)
   let b:=leafM a.1 (n.c.child 1)
   let c:=leafM b.1 (n.c.child 2)
   let d:=leafM c.1 (n.c.child 3)
   n.l.foldl (fun s r=>f s i r) ⟨d.1.ns.set i { n with k0:=a.2,k1:=b.2,k2:=c.2,k3:=d.2,many:=0,split:=true,l:=[],v:=nilV },d.1.fr⟩
def putM(bk:Nat):Nat→PS→Nat→Rcd→PS
 | 0,s,_,_=>s
 | f+1,s,i,r=>
   let d:=downM 17 s.ns i r
   match d.1[d.2]? with
   | none=>⟨d.1,s.fr⟩
   | some n=>
     let s1:PS:=⟨d.1.set d.2 { n with many:=IntKind.i64.wrap (n.many+1),l:=n.l++[r] },s.fr⟩
     if bk<n.l.length+1∧n.c.l<16 then partM (putM bk f) s1 d.2 else s1
structure KidsOk(s:PS)(n:PN):Prop where
 lt:n.c.l<16
 kid:∀j:Int,0≤j→j≤3→∃(k:Nat) (m:PN),n.kid j=(k:Int)∧s.ns[k]?=some m∧m.c=n.c.child j∧(k:Int)∉s.fr
structure PWf(bk:Nat)(x:Nat→Prop)(s:PS):Prop where
 cell:∀(i:Nat) (n:PN),s.ns[i]?=some n→n.c.right=true
 kids:∀(i:Nat) (n:PN),s.ns[i]?=some n→n.split=true→KidsOk s n
 few:∀(i:Nat) (n:PN),s.ns[i]?=some n→¬x i→n.split=false→n.c.l<16→n.l.length≤bk
 free:∀x∈s.fr,∃k:Nat,x=(k:Int)∧k<s.ns.length
 fnd:s.fr.Nodup
theorem way_rng(n:PN)(r:Rcd):0≤n.way r∧n.way r≤3:=by
 unfold PN.way
 simp only[]
 omega
theorem child_right{c:Cel}{j:Int}(h:c.right=true)(h1:c.l<16)(h0:0≤j)(h3:j≤3):(c.child j).right=true∧(c.child j).l=c.l+1:=by
 have hb:=Cel.bd h
 have hd:=of_decide_eq_true h
 have e:c.child j=⟨c.l+1,2 * c.x+j % 2,2 * c.y+j / 2⟩:=by
  unfold Cel.child
  rw[if_pos (by simp[h];exact ⟨by omega,h0,h3⟩)]
 have hp:p2 (c.l+1)=2 * p2 c.l:=by
  unfold p2
  rw[show (c.l+1).toNat=c.l.toNat+1 by omega,Int.pow_succ]
  omega
 rw[e]
 refine ⟨decide_eq_true ⟨by show 0≤c.l+1;omega,by show c.l+1≤16;omega,by show 0≤2 * c.x+j % 2;omega,by show 0≤2 * c.y+j / 2;omega,?_,?_⟩,rfl⟩
 ·show 2 * c.x+j % 2<p2 (c.l+1)
  rw[hp]
  omega
 ·show 2 * c.y+j / 2<p2 (c.l+1)
  rw[hp]
  omega
def PN.alike(n m:PN):Prop:=m.c=n.c∧m.split=n.split∧m.k0=n.k0∧m.k1=n.k1∧m.k2=n.k2∧m.k3=n.k3
theorem PN.alike.kid{n m:PN}(h:n.alike m)(j:Int):m.kid j=n.kid j:=by
 obtain ⟨_,_,h0,h1,h2,h3⟩:=h
 unfold PN.kid
 rw[h0,h1,h2,h3]
section
variable{bk:Nat}{x:Nat→Prop}{s:PS}{i:Nat}{n m:PN}
theorem set_get{α:Type}{l:List α}{i j:Nat}{x y:α}(h:(l.set i x)[j]?=some y):(j=i∧y=x∧i<l.length)∨(j≠i∧l[j]?=some y):=by
 rw[List.getElem?_set] at h
 by_cases e:i=j
 ·subst e
  rw[if_pos rfl] at h
  split at h
  ·cases h;exact .inl ⟨rfl,rfl,by assumption⟩
  ·cases h
 ·rw[if_neg e] at h
  exact .inr ⟨Ne.symm e,h⟩
theorem PWf.turn(h:PWf bk x s)(hn:s.ns[i]?=some n)(ha:n.alike m)(hf:¬x i→m.split=false→m.c.l<16→m.l.length≤bk):PWf bk x ⟨s.ns.set i m,s.fr⟩:=by
 have hil:=(List.getElem?_eq_some_iff.1 hn).1
 have kk:∀q:PN,KidsOk s q→KidsOk ⟨s.ns.set i m,s.fr⟩ q:=fun q hq=>⟨hq.lt,fun j h0 h3=>by
  obtain ⟨k,y,h1,h2,h4,h5⟩:=hq.kid j h0 h3
  by_cases e:i=k
  ·subst e
   rw[h2] at hn
   cases hn
   exact ⟨i,m,h1,by simp[hil],by rw[ha.1,h4],h5⟩
  ·exact ⟨k,y,h1,by simp only[];rw[List.getElem?_set,if_neg e];exact h2,h4,h5⟩⟩
 refine ⟨fun j q hq=>?_,fun j q hq hs=>?_,fun j q hq hj hs hl=>?_,fun x hx=>?_,h.fnd⟩
 ·rcases set_get hq with ⟨_,rfl,_⟩|⟨_,hq⟩
  ·rw[ha.1];exact h.cell i n hn
  ·exact h.cell j q hq
 ·rcases set_get hq with ⟨_,rfl,_⟩|⟨_,hq⟩
  ·have h1:=h.kids i n hn (by rw[←ha.2.1];exact hs)
   exact ⟨by rw[ha.1];exact h1.lt,fun j h0 h3=>by
    obtain ⟨k,x,h4⟩:=(kk n h1).kid j h0 h3
    exact ⟨k,x,by rw[ha.kid,ha.1];exact h4⟩⟩
  ·exact kk q (h.kids j q hq hs)
 ·rcases set_get hq with ⟨hji,rfl,_⟩|⟨_,hq⟩
  ·exact hf (by rw[←hji];exact hj) hs hl
  ·exact h.few j q hq hj hs hl
 ·obtain ⟨k,h1,h2⟩:=h.free x hx
  exact ⟨k,h1,by simpa using h2⟩
theorem pdown_ok{r:Rcd}:∀(f:Nat) {s:PS} {i:Nat} {n:PN},PWf bk x s→s.ns[i]?=some n→(i:Int)∉s.fr→17 - n.c.l≤f →
  ∃m,(downM f s.ns i r).1[(downM f s.ns i r).2]?=some m∧m.split=false∧n.c.l≤m.c.l∧(n.split=true→n.c.l<m.c.l)∧PWf bk x ⟨(downM f s.ns i r).1,s.fr⟩∧(downM f s.ns i r).1.length=s.ns.length∧(((downM f s.ns i r).2:Nat):Int)∉s.fr ∧
   (∀j:Nat,(downM f s.ns i r).1[j]?.map (fun q:PN=>(q.c,q.split,q.k0,q.k1,q.k2,q.k3,q.l))=s.ns[j]?.map (fun q:PN=>(q.c,q.split,q.k0,q.k1,q.k2,q.k3,q.l)))
 | 0,s,i,n,h,hn,_,hf=>by
   have:=(Cel.bd (h.cell i n hn)).2.1
   omega
 | f+1,s,i,n,h,hn,hi,hf=>by
   simp only[downM,hn]
   by_cases hs:n.split=true
   ·simp only[if_pos hs]
    have hk:=h.kids i n hn hs
    have hw:=way_rng n r
    obtain ⟨k,m,h1,h2,h3,h4⟩:=hk.kid (n.way r) hw.1 hw.2
    have hc:=child_right (h.cell i n hn) hk.lt hw.1 hw.2
    have h5:=h.turn (m:={ n with many:=IntKind.i64.wrap (n.many+1) }) hn ⟨rfl,rfl,rfl,rfl,rfl,rfl⟩ (fun _ hh=>by rw[hs] at hh;cases hh)
    have hki:k≠i:=fun e=>by
     rw[e,hn] at h2
     cases h2
     rw[←h3] at hc
     omega
    rw[h1,Int.toNat_natCast]
    have h2':(s.ns.set i { n with many:=IntKind.i64.wrap (n.many+1) })[k]?=some m:=by rw[List.getElem?_set,if_neg (Ne.symm hki)];exact h2
    obtain ⟨q,g1,g2,g3,g4,g5,g6,g7,g8⟩:=pdown_ok (r:=r) f h5 h2' h4 (by rw[h3,hc.2];omega)
    rw[h3,hc.2] at g3
    refine ⟨q,g1,g2,by omega,fun _=>by omega,g5,by rw[g6];simp,g7,fun j=>?_⟩
    rw[g8 j]
    simp only[]
    rw[List.getElem?_set]
    split
    ·rename_i e
     subst e
     rw[hn]
     split
     ·rfl
     ·rename_i hl
      exact absurd (List.getElem?_eq_some_iff.1 hn).1 hl
    ·rfl
   ·simp only[if_neg hs]
    exact ⟨n,hn,by simpa using hs,Int.le_refl _,fun h=>absurd h hs,h,tU,hi,fun _=>trivial⟩
theorem pleaf_ok{c:Cel}(h:PWf bk x s)(hc:c.right=true):∃k:Nat,(leafM s c).2=(k:Int)∧(leafM s c).1.ns[k]?=some (.leaf c)∧(k:Int)∉(leafM s c).1.fr∧PWf bk x (leafM s c).1∧(∀(j:Nat) (q:PN),s.ns[j]?=some q→(j:Int)∉s.fr→(leafM s c).1.ns[j]?=some q∧j≠k)∧(∀x∈(leafM s c).1.fr,x∈s.fr)∧s.ns.length≤(leafM s c).1.ns.length∧(leafM s c).1.ns.length≤s.ns.length+1:=by
 have key:∀(k:Nat) (s':PS),s'.ns[k]?=some (.leaf c)→(∀j:Nat,j≠k→∀q:PN,s'.ns[j]?=some q→s.ns[j]?=some q)→(∀(j:Nat) (q:PN),s.ns[j]?=some q→(j:Int)∉s.fr→s'.ns[j]?=some q)→(∀x∈s'.fr,x∈s.fr)→s.ns.length≤s'.ns.length→s'.fr.Nodup→PWf bk x s':=by
  intro k s' h1 h2 h3 h4 h5 h6
  refine ⟨fun j q hq=>?_,fun j q hq hs=>?_,fun j q hq hj hs hl=>?_,fun x hx=>?_,h6⟩
  ·by_cases e:j=k
   ·subst e;rw[h1] at hq;cases hq;exact hc
   ·exact h.cell j q (h2 j e q hq)
  ·by_cases e:j=k
   ·subst e;rw[h1] at hq;cases hq;cases hs
   ·have hk:=h.kids j q (h2 j e q hq) hs
    refine ⟨hk.lt,fun a ha0 ha3=>?_⟩
    obtain ⟨b,m,g1,g2,g3,g4⟩:=hk.kid a ha0 ha3
    exact ⟨b,m,g1,h3 b m g2 g4,g3,fun hx=>g4 (h4 _ hx)⟩
  ·by_cases e:j=k
   ·subst e;rw[h1] at hq;cases hq;exact Nat.zero_le _
   ·exact h.few j q (h2 j e q hq) hj hs hl
  ·obtain ⟨b,g1,g2⟩:=h.free x (h4 x hx)
   exact ⟨b,g1,by omega⟩
 unfold leafM
 cases hl:s.fr.getLast? with
 | none=>
   simp only[]
   have hfr:s.fr=[]:=List.getLast?_eq_none_iff.1 hl
   have h3:∀(j:Nat) (q:PN),s.ns[j]?=some q→(s.ns++[PN.leaf c])[j]?=some q:=fun j q hq=>by
    rw[List.getElem?_append_left (List.getElem?_eq_some_iff.1 hq).1];exact hq
   refine ⟨s.ns.length,rfl,by simp,by rw[hfr];simp,key s.ns.length _ (by simp) (fun j hj q hq=>?_) (fun j q hq _=>h3 j q hq) (fun x hx=>hx) (by simp) h.fnd,fun j q hq _=>⟨h3 j q hq,fun e=>?_⟩,fun x hx=>hx,by simp,by simp⟩
   ·rcases Nat.lt_or_ge j s.ns.length with hlt|hge
    ·simp only[] at hq;rw[List.getElem?_append_left hlt] at hq;exact hq
    ·simp only[] at hq
     have:=(List.getElem?_eq_some_iff.1 hq).1
     simp at this
     omega
   ·have:=(List.getElem?_eq_some_iff.1 hq).1
    omega
 | some x=>
   simp only[]
   have hx:x∈s.fr:=List.mem_of_getLast? hl
   obtain ⟨k,rfl,hk⟩:=h.free x hx
   rw[Int.toNat_natCast]
   have hdl:s.fr=s.fr.dropLast++[(k:Int)]:=by
    have hne:s.fr≠[]:=fun e=>by rw[e] at hx;simp at hx
    have:=List.dropLast_concat_getLast hne
    rw[List.getLast?_eq_some_getLast hne] at hl
    rw[Option.some.inj hl] at this
    exact this.symm
   have hnd:=h.fnd
   rw[hdl,List.nodup_append] at hnd
   have hnk:(k:Int)∉s.fr.dropLast:=fun hm=>by
    have:=hnd.2.2 _ hm (k:Int) (by simp)
    exact this rfl
   have hsub:∀x∈s.fr.dropLast,x∈s.fr:=fun x hx=>List.dropLast_subset _ hx
   have h3:∀(j:Nat) (q:PN),s.ns[j]?=some q→(j:Int)∉s.fr→(s.ns.set k (PN.leaf c))[j]?=some q∧j≠k:=fun j q hq hj=>by
    have:k≠j:=fun e=>hj (by rw[←e];exact hx)
    exact ⟨by rw[List.getElem?_set,if_neg this];exact hq,Ne.symm this⟩
   refine ⟨k,rfl,by simp[hk],hnk,key k _ (by simp[hk]) (fun j hj q hq=>?_) (fun j q hq hj=>(h3 j q hq hj).1) hsub (by simp) hnd.1,h3,hsub,by simp,by simp⟩
   simp only[] at hq
   rw[List.getElem?_set,if_neg (Ne.symm hj)] at hq
   exact hq
end
def tot(ns:List PN):Nat:=(ns.map fun n=>n.l.length).sum
theorem tot_append(a b:List PN):tot (a++b)=tot a+tot b:=by unfold tot;rw[List.map_append,List.sum_append]
theorem tot_set:∀{ns:List PN} {i:Nat} {n:PN} (m:PN),ns[i]?=some n→tot (ns.set i m)+n.l.length=tot ns+m.l.length
 | [],_,_,_,h=>by simp at h
 | x::ns,0,n,m,h=>by
   simp at h
   subst h
   unfold tot
   simp only[List.set_cons_zero,List.map_cons,List.sum_cons]
   omega
 | x::ns,i+1,n,m,h=>by
   have:=tot_set (ns:=ns) (i:=i) m (by simpa using h)
   unfold tot at this ⊢
   simp only[List.set_cons_succ,List.map_cons,List.sum_cons]
   omega
theorem tot_le{ns:List PN}{i:Nat}{n:PN}(h:ns[i]?=some n):n.l.length≤tot ns:=by
 have:=tot_set n h
 have:=tot_set (PN.leaf n.c) h
 unfold PN.leaf at this
 simp at this
 omega
theorem leaf_tot{s:PS}{c:Cel}:tot (leafM s c).1.ns≤tot s.ns:=by
 unfold leafM
 cases s.fr.getLast? with
 | none=>simp only[];rw[tot_append];simp[tot,PN.leaf]
 | some x=>
   simp only[]
   cases h:s.ns[x.toNat]? with
   | none=>rw[List.set_eq_of_length_le (by simpa using h)];exact Nat.le_refl _
   | some n=>
     have:=tot_set (PN.leaf c) h
     simp only[PN.leaf,List.length_nil,Nat.add_zero] at this ⊢
     omega
theorem down_tot{r:Rcd}:∀(f:Nat) {ns:List PN} {i:Nat},tot (downM f ns i r).1=tot ns
 | 0,ns,i=>rfl
 | f+1,ns,i=>by
   simp only[downM]
   cases h:ns[i]? with
   | none=>rfl
   | some n=>
     simp only[]
     split
     ·rw[down_tot f]
      have:=tot_set { n with many:=IntKind.i64.wrap (n.many+1) } h
      simp only[] at this
      omega
     ·rfl
structure Fresh(s:PS)(i:Nat)(c:Cel)(k:Nat):Prop where
 out:∃n,s.ns[i]?=some n∧n.c=c∧n.split=true∧(i:Int)∉s.fr∧∀j:Int,0≤j→j≤3→∃(q:Nat) (m:PN),n.kid j=(q:Int)∧s.ns[q]?=some m∧m.c=c.child j∧(q:Int)∉s.fr∧q≠i∧m.split=false∧m.l.length≤k
def Keeps(s s':PS):Prop:=∀(j:Nat) (q:PN),s.ns[j]?=some q→(j:Int)∉s.fr→(j:Int)∉s'.fr∧∃q',s'.ns[j]?=some q'∧q'.c=q.c∧(q.split=true→q'.split=true)
theorem Keeps.refl(s:PS):Keeps s s:=fun _ q h hj=>⟨hj,q,h,rfl,id⟩
theorem Keeps.trans{a b c:PS}(h:Keeps a b)(k:Keeps b c):Keeps a c:=fun j q hq hj=>by
 obtain ⟨h1,q1,h2,h3,h4⟩:=h j q hq hj
 obtain ⟨k1,q2,k2,k3,k4⟩:=k j q1 h2 h1
 exact ⟨k1,q2,k2,k3.trans h3,fun h=>k4 (h4 h)⟩
def partS(s:PS)(i:Nat)(n:PN):PS:=
 let a:=leafM s (n.c.child 0)
 let b:=leafM a.1 (n.c.child 1)
 let c:=leafM b.1 (n.c.child 2)
 let d:=leafM c.1 (n.c.child 3)
 ⟨d.1.ns.set i { n with k0:=a.2,k1:=b.2,k2:=c.2,k3:=d.2,many:=0,split:=true,l:=[],v:=nilV },d.1.fr⟩
theorem partM_eq{f:PS→Nat→Rcd→PS}{s:PS}{i:Nat}{n:PN}(h:s.ns[i]?=some n):partM f s i=n.l.foldl (fun s r=>f s i r) (partS s i n):=by
 unfold partM
 rw[h]
 rfl
theorem part_start{bk:Nat}{s:PS}{i:Nat}{n:PN}(h:PWf bk (·=i) s)(hn:s.ns[i]?=some n)(hi:(i:Int)∉s.fr)(hs:n.split=false)(hl:n.c.l<16) :
  PWf bk (fun _=>False) (partS s i n)∧Fresh (partS s i n) i n.c 0∧(partS s i n).ns.length≤s.ns.length+4∧tot (partS s i n).ns+n.l.length≤tot s.ns∧Keeps s (partS s i n):=by
 have hr:=h.cell i n hn
 have hc:=fun j h0 h3=>child_right (j:=j) hr hl h0 h3
 obtain ⟨ka,a1,a2,a3,a4,a5,a6,a7,a8⟩:=pleaf_ok h (hc 0 (by omega) (by omega)).1
 obtain ⟨kb,b1,b2,b3,b4,b5,b6,b7,b8⟩:=pleaf_ok a4 (hc 1 (by omega) (by omega)).1
 obtain ⟨kc,c1,c2,c3,c4,c5,c6,c7,c8⟩:=pleaf_ok b4 (hc 2 (by omega) (by omega)).1
 obtain ⟨kd,d1,d2,d3,d4,d5,d6,d7,d8⟩:=pleaf_ok c4 (hc 3 (by omega) (by omega)).1
 have ta:=leaf_tot (s:=s) (c:=n.c.child 0)
 have tb:=leaf_tot (s:=(leafM s (n.c.child 0)).1) (c:=n.c.child 1)
 have tc:=leaf_tot (s:=(leafM (leafM s (n.c.child 0)).1 (n.c.child 1)).1) (c:=n.c.child 2)
 have td:=leaf_tot (s:=(leafM (leafM (leafM s (n.c.child 0)).1 (n.c.child 1)).1 (n.c.child 2)).1) (c:=n.c.child 3)
 obtain ⟨na,ea⟩:=a5 i n hn hi
 have ia:(i:Int)∉(leafM s (n.c.child 0)).1.fr:=fun hx=>hi (a6 _ hx)
 obtain ⟨nb,eb⟩:=b5 i n na ia
 have ib:=fun hx=>ia (b6 _ hx)
 obtain ⟨nc,ec⟩:=c5 i n nb ib
 have ic:=fun hx=>ib (c6 _ hx)
 obtain ⟨nd,ed⟩:=d5 i n nc ic
 have id':=fun hx=>ic (d6 _ hx)
 have ga:=(d5 _ _ (c5 _ _ (b5 _ _ a2 a3).1 (fun hx=>a3 (b6 _ hx))).1 (fun hx=>a3 (b6 _ (c6 _ hx)))).1
 have gb:=(d5 _ _ (c5 _ _ b2 b3).1 (fun hx=>b3 (c6 _ hx))).1
 have gc:=(d5 _ _ c2 c3).1
 have fa:(ka:Int)∉_:=fun hx=>a3 (b6 _ (c6 _ (d6 _ hx)))
 have fb:(kb:Int)∉_:=fun hx=>b3 (c6 _ (d6 _ hx))
 have fc:(kc:Int)∉_:=fun hx=>c3 (d6 _ hx)
 unfold partS
 simp only[]
 generalize leafM (leafM (leafM (leafM s (n.c.child 0)).1 (n.c.child 1)).1 (n.c.child 2)).1 (n.c.child 3)=d at *
 generalize leafM (leafM (leafM s (n.c.child 0)).1 (n.c.child 1)).1 (n.c.child 2)=c at *
 generalize leafM (leafM s (n.c.child 0)).1 (n.c.child 1)=b at *
 generalize leafM s (n.c.child 0)=a at *
 have hil:i<d.1.ns.length:=(List.getElem?_eq_some_iff.1 nd).1
 have hkeep:∀(j:Nat) (q:PN),s.ns[j]?=some q→(j:Int)∉s.fr→(j:Int)∉d.1.fr∧d.1.ns[j]?=some q:=fun j q hq hj=>by
  have e1:(j:Int)∉a.1.fr:=fun hx=>hj (a6 _ hx)
  have e2:(j:Int)∉b.1.fr:=fun hx=>e1 (b6 _ hx)
  have e3:(j:Int)∉c.1.fr:=fun hx=>e2 (c6 _ hx)
  exact ⟨fun hx=>e3 (d6 _ hx),(d5 j q (c5 j q (b5 j q (a5 j q hq hj).1 e1).1 e2).1 e3).1⟩
 have hkid:∀j:Int,0≤j→j≤3→∃(q:Nat) (m:PN),PN.kid { n with k0:=a.2,k1:=b.2,k2:=c.2,k3:=d.2,many:=0,split:=true,l:=[],v:=nilV } j=(q:Int)∧d.1.ns[q]?=some m∧m.c=n.c.child j∧(q:Int)∉d.1.fr∧q≠i∧m.split=false∧m.l.length≤0:=by
  intro j h0 h3
  unfold PN.kid
  simp only[]
  rcases (by omega:j=0∨j=1∨j=2∨j=3) with rfl|rfl|rfl|rfl
  ·exact ⟨ka,_,by simpa using a1,ga,rfl,fa,Ne.symm ea,rfl,Nat.le_refl _⟩
  ·exact ⟨kb,_,by simpa using b1,gb,rfl,fb,Ne.symm eb,rfl,Nat.le_refl _⟩
  ·exact ⟨kc,_,by simpa using c1,gc,rfl,fc,Ne.symm ec,rfl,Nat.le_refl _⟩
  ·exact ⟨kd,_,by simpa using d1,d2,rfl,d3,Ne.symm ed,rfl,Nat.le_refl _⟩
 generalize hN:({ n with k0:=a.2,k1:=b.2,k2:=c.2,k3:=d.2,many:=0,split:=true,l:=[],v:=nilV }:PN)=N at *
 have hNc:N.c=n.c:=by rw[←hN]
 have hNs:N.split=true:=by rw[←hN]
 have hNl:N.l=[]:=by rw[←hN]
 have get:∀q m,d.1.ns[q]?=some m→q≠i→(d.1.ns.set i N)[q]?=some m:=fun q m hq hne=>by rw[List.getElem?_set,if_neg (Ne.symm hne)];exact hq
 have kk:∀q:PN,KidsOk d.1 q→KidsOk ⟨d.1.ns.set i N,d.1.fr⟩ q:=fun q hq=>⟨hq.lt,fun j h0 h3=>by
  obtain ⟨k,y,h1,h2,h4,h5⟩:=hq.kid j h0 h3
  by_cases e:k=i
  ·subst e
   rw[h2] at nd
   cases nd
   exact ⟨k,N,h1,by simp[hil],by rw[hNc,h4],h5⟩
  ·exact ⟨k,y,h1,get k y h2 e,h4,h5⟩⟩
 refine ⟨⟨fun j q hq=>?_,fun j q hq hsp=>?_,fun j q hq _ hsp hql=>?_,fun y hy=>?_,d4.fnd⟩,⟨N,by simp[hil],hNc,hNs,id',fun j h0 h3=>?_⟩,by simp only[List.length_set];omega,?_,fun j q hq hj=>?_⟩
 ·rcases set_get hq with ⟨_,rfl,_⟩|⟨_,hq⟩
  ·rw[hNc];exact hr
  ·exact d4.cell j q hq
 ·rcases set_get hq with ⟨_,rfl,_⟩|⟨_,hq⟩
  ·refine ⟨by rw[hNc];exact hl,fun j h0 h3=>?_⟩
   obtain ⟨q,m,g1,g2,g3,g4,g5,_⟩:=hkid j h0 h3
   exact ⟨q,m,g1,get q m g2 g5,by rw[hNc];exact g3,g4⟩
  ·exact kk q (d4.kids j q hq hsp)
 ·rcases set_get hq with ⟨_,rfl,_⟩|⟨hj,hq⟩
  ·rw[hNs] at hsp;cases hsp
  ·exact d4.few j q hq hj hsp hql
 ·obtain ⟨k,g1,g2⟩:=d4.free y hy
  exact ⟨k,g1,by simpa using g2⟩
 ·obtain ⟨q,m,g1,g2,g3,g4,g5,g6⟩:=hkid j h0 h3
  exact ⟨q,m,g1,get q m g2 g5,g3,g4,g5,g6⟩
 ·have:=tot_set N nd
  rw[hNl] at this
  simp only[List.length_nil] at this
  omega
 ·obtain ⟨g1,g2⟩:=hkeep j q hq hj
  refine ⟨g1,?_⟩
  by_cases e:j=i
  ·subst e
   rw[hn] at hq
   cases hq
   exact ⟨N,by simp[hil],hNc,fun h=>by rw[hs] at h;cases h⟩
  ·exact ⟨q,get j q g2 e,rfl,id⟩
theorem put_small{bk f:Nat}{s:PS}{i k:Nat}{c:Cel}{r:Rcd}(hF:Fresh s i c k)(hk:k<bk):Fresh (putM bk (f+1) s i r) i c (k+1)∧(putM bk (f+1) s i r).ns.length=s.ns.length:=by
 obtain ⟨n,h1,h2,h3,h4,h5⟩:=hF.out
 have hw:=way_rng n r
 obtain ⟨q,m,g1,g2,g3,g4,g5,g6,g7⟩:=h5 (n.way r) hw.1 hw.2
 have e1:(s.ns.set i { n with many:=IntKind.i64.wrap (n.many+1) })[q]?=some m:=by rw[List.getElem?_set,if_neg (Ne.symm g5)];exact g2
 have hd:downM 17 s.ns i r=(s.ns.set i { n with many:=IntKind.i64.wrap (n.many+1) },q):=by
  show downM (15+1+1) s.ns i r=_
  simp only[downM,h1,if_pos h3,g1,Int.toNat_natCast,e1,g6,Bool.false_eq_true,if_false]
 have hp:putM bk (f+1) s i r=⟨(s.ns.set i { n with many:=IntKind.i64.wrap (n.many+1) }).set q { m with many:=IntKind.i64.wrap (m.many+1),l:=m.l++[r] },s.fr⟩:=by
  simp only[putM,hd,e1]
  rw[if_neg (by omega)]
 rw[hp]
 have hil:=(List.getElem?_eq_some_iff.1 h1).1
 have hql:=(List.getElem?_eq_some_iff.1 g2).1
 refine ⟨⟨{ n with many:=IntKind.i64.wrap (n.many+1) },?_,h2,h3,h4,fun j h0 hj=>?_⟩,by simp⟩
 ·simp only[]
  rw[List.getElem?_set,if_neg g5]
  simp[hil]
 ·obtain ⟨q',m',e2,e3,e4,e5,e6,e7,e8⟩:=h5 j h0 hj
  by_cases e:q=q'
  ·subst e
   rw[g2] at e3
   cases e3
   exact ⟨q,{ m with many:=IntKind.i64.wrap (m.many+1),l:=m.l++[r] },e2,by simp[hql],e4,e5,e6,e7,by simp;omega⟩
  ·refine ⟨q',m',e2,?_,e4,e5,e6,e7,by omega⟩
   simp only[]
   rw[List.getElem?_set,if_neg e,List.getElem?_set,if_neg (Ne.symm e6)]
   exact e3
def roomI(n:PN):Int:=if n.split then 15 - n.c.l else 16 - n.c.l
structure PutOk(bk:Nat)(s s':PS)(add:Int)(t:Nat):Prop where
 wf:PWf bk (fun _=>False) s'
 keeps:Keeps s s'
 len:(s'.ns.length:Int)≤s.ns.length+add
 tot:tot s'.ns≤tot s.ns+t
theorem pfold_ok{bk f i:Nat}{c:Cel}(ih:∀(s:PS) (i:Nat) (n:PN) (r:Rcd),PWf bk (fun _=>False) s→s.ns[i]?=some n→(i:Int)∉s.fr→1+roomI n≤f→1≤f→PutOk bk s (putM bk f s i r) (4 * roomI n) 1)(hf:16 - c.l≤f)(hf1:1≤f) :
  ∀(l:List Rcd) (s:PS) (k:Nat),PWf bk (fun _=>False) s→Fresh s i c k→k+l.length≤bk+1→PutOk bk s (l.foldl (fun s r=>putM bk f s i r) s) (4 * (15 - c.l)) l.length
 | [],s,k,h,hF,_=>by
   obtain ⟨n,h1,h2,h3,_⟩:=hF.out
   have:=(h.kids i n h1 h3).lt
   rw[h2] at this
   exact ⟨h,.refl s,by simp only[List.foldl_nil];omega,Nat.le_refl _⟩
 | r::l,s,k,h,hF,hk=>by
   obtain ⟨n,h1,h2,h3,h4,_⟩:=hF.out
   have hr:roomI n=15 - c.l:=by unfold roomI;rw[if_pos h3,h2]
   have h5:=ih s i n r h h1 h4 (by rw[hr];omega) hf1
   rw[hr] at h5
   simp only[List.length_cons] at hk
   simp only[List.foldl_cons,List.length_cons]
   by_cases hkb:k<bk
   ·obtain ⟨f,rfl⟩:∃g,f=g+1:=⟨f - 1,by omega⟩
    obtain ⟨h6,h7⟩:=put_small (f:=f) (r:=r) hF hkb
    have h8:=pfold_ok ih hf hf1 l _ (k+1) h5.wf h6 (by omega)
    have a1:=h5.tot
    have a2:=h8.tot
    have a3:=h8.len
    exact ⟨h8.wf,h5.keeps.trans h8.keeps,by omega,by omega⟩
   ·have:l=[]:=List.eq_nil_of_length_eq_zero (by omega)
    subst this
    exact h5
theorem down_keeps{bk f:Nat}{x:Nat→Prop}{r:Rcd}{s:PS}{i:Nat}{n:PN}(h:PWf bk x s)(hn:s.ns[i]?=some n)(hi:(i:Int)∉s.fr)(hf:17 - n.c.l≤f):Keeps s ⟨(downM f s.ns i r).1,s.fr⟩:=fun j q hq hj=>by
 obtain ⟨_,_,_,_,_,_,_,_,g8⟩:=pdown_ok (r:=r) f h hn hi hf
 have:=g8 j
 rw[hq] at this
 refine ⟨hj,?_⟩
 cases hd:(downM f s.ns i r).1[j]? with
 | none=>rw[hd] at this;cases this
 | some q'=>
   rw[hd] at this
   simp only[Option.map_some,Option.some.injEq,Prod.mk.injEq] at this
   exact ⟨q',rfl,this.1,fun h=>by rw[this.2.1];exact h⟩
theorem pput_ok{bk:Nat}:∀(f:Nat) (s:PS) (i:Nat) (n:PN) (r:Rcd),PWf bk (fun _=>False) s→s.ns[i]?=some n→(i:Int)∉s.fr→1+roomI n≤f→1≤f→PutOk bk s (putM bk f s i r) (4 * roomI n) 1
 | 0,_,_,_,_,_,_,_,_,h1=>by omega
 | f+1,s,i,n,r,h,hn,hi,hf,_=>by
   have hb:=Cel.bd (h.cell i n hn)
   obtain ⟨m,d1,d2,d3,d4,d5,d6,d7,d8⟩:=pdown_ok (r:=r) 17 h hn hi (by omega)
   have dk:=down_keeps (r:=r) (f:=17) h hn hi (by omega)
   have dt:=down_tot (r:=r) 17 (ns:=s.ns) (i:=i)
   simp only[putM]
   generalize downM 17 s.ns i r=d at *
   rw[d1]
   simp only[]
   have hmb:=Cel.bd (d5.cell _ _ d1)
   have ht:=tot_set { m with many:=IntKind.i64.wrap (m.many+1),l:=m.l++[r] } d1
   simp only[List.length_append,List.length_cons,List.length_nil] at ht
   have hroom:16 - m.c.l≤roomI n:=by
    unfold roomI
    split
    ·rename_i hs
     have:=d4 hs
     omega
    ·omega
   have hkeep:Keeps s ⟨d.1.set d.2 { m with many:=IntKind.i64.wrap (m.many+1),l:=m.l++[r] },s.fr⟩:=dk.trans fun j q hq hj=>by
    refine ⟨hj,?_⟩
    simp only[] at hq ⊢
    by_cases e:d.2=j
    ·subst e
     rw[d1] at hq
     cases hq
     exact ⟨{ m with many:=IntKind.i64.wrap (m.many+1),l:=m.l++[r] },by rw[List.getElem?_set,if_pos rfl,if_pos (List.getElem?_eq_some_iff.1 d1).1],rfl,id⟩
    ·exact ⟨q,by rw[List.getElem?_set,if_neg e];exact hq,rfl,id⟩
   by_cases hc:bk<m.l.length+1∧m.c.l<16
   ·rw[if_pos hc]
    have w1:PWf bk (·=d.2) (⟨d.1,s.fr⟩:PS):=⟨d5.cell,d5.kids,fun j q hq _ hs hl=>d5.few j q hq id hs hl,d5.free,d5.fnd⟩
    have w2:=w1.turn (m:={ m with many:=IntKind.i64.wrap (m.many+1),l:=m.l++[r] }) d1 ⟨rfl,rfl,rfl,rfl,rfl,rfl⟩ (fun hx=>absurd rfl hx)
    have hml:=d5.few _ _ d1 id d2 hc.2
    have hset:(d.1.set d.2 { m with many:=IntKind.i64.wrap (m.many+1),l:=m.l++[r] })[d.2]?=some { m with many:=IntKind.i64.wrap (m.many+1),l:=m.l++[r] }:=by rw[List.getElem?_set,if_pos rfl,if_pos (List.getElem?_eq_some_iff.1 d1).1]
    obtain ⟨p1,p2,p3,p4,p5⟩:=part_start w2 hset d7 d2 hc.2
    rw[partM_eq (s:=⟨d.1.set d.2 { m with many:=IntKind.i64.wrap (m.many+1),l:=m.l++[r] },s.fr⟩) hset]
    have q1:=pfold_ok (pput_ok f) (by simp only[];omega) (by omega) (m.l++[r]) _ 0 p1 p2 (by simp;omega)
    have q2:=q1.len
    have q3:=q1.tot
    simp only[List.length_append,List.length_cons,List.length_nil,List.length_set] at p3 p4 q2 q3
    exact ⟨q1.wf,hkeep.trans (p5.trans q1.keeps),by simp only[List.length_append,List.length_cons,List.length_nil] at *;omega,by simp only[List.length_append,List.length_cons,List.length_nil] at *;omega⟩
   ·rw[if_neg hc]
    refine ⟨d5.turn d1 ⟨rfl,rfl,rfl,rfl,rfl,rfl⟩ fun _ _ hl=>?_,hkeep,?_,by simp only[];omega⟩
    ·simp only[List.length_append,List.length_cons,List.length_nil] at hl ⊢
     omega
    ·simp only[List.length_set]
     omega
abbrev tTab:TypeId:=296
abbrev tTik:TypeId:=293
def tabH(l:List Tik)(n:Nat):List AObj:=.cells [svA 1 10 n] tTab::svH (l.flatMap tC) tTik n
def atI(l:List Tik)(s:Nat):Int:=match tikAt l s with
 | some i=>i
 | none=>-1
theorem atI_findP(l:List Tik)(s:Nat):findP s (l.map fun k=>k.secret)=atI l s:=by
 unfold findP atI tikAt
 rw[List.findIdx?_map]
 rfl
def TOk(l:List Tik):Prop:=l.length≤8∧∀k∈l,k.secret<18446744073709551616∧k.parent<18446744073709551616
theorem slisted1{l:List Tik}{n:Nat}{c:Cap}(hn:l.length=n+1)(hl:l.length≤1000) :
  CP [] 261 [.ptr 0 0,.lit (.func (.func 262) #[] #[])] [.cells [.slice 1 0 (n+1) c] tTab,.row (l.flatMap tC) tTik] (fun v H'=>v=.slice 2 0 (n+1) (.grown 1)∧H'=[.cells [.slice 1 0 (n+1) c] tTab,.row (l.flatMap tC) tTik,.row (l.map fun k=>uC k.secret) 47]):=by
 rw[←hn]
 exact slisted hl fun m hm=>by
  obtain rfl:m=n+1:=by omega
  rw[hn]
  exact ⟨rfl,rfl⟩
theorem slisted0:CP [] 261 [.ptr 0 0,.lit (.func (.func 262) #[] #[])] (tabH [] 0) (fun v H'=>v=.lit (.slice none 0 0)∧H'=tabH [] 0):=by
 refine fn_ok ev_ok rfl ?_
 conv=>whnf
 refine RdS.loop 1 (RdS.step ev_ok rfl ?_)
 conv=>whnf
 exact ⟨rfl,rfl⟩
theorem sfindN{s:Nat}:CP [] 275 [.lit (.slice none 0 0),uA s] [] (fun v _=>v=.tuple [iA (-1),iA 0]):=by
 refine fn_ok ev_ok rfl ?_
 conv=>whnf
 refine RdS.loop 1 (RdS.step ev_ok rfl ?_)
 conv=>whnf
theorem sfind1{l:List Nat}{n s:Nat}{c:Cap}(hn:l.length=n+1)(hl:l.length≤1000)(hb:∀x∈l,x<18446744073709551616)(hs:s<18446744073709551616):CP [] 275 [.slice 0 0 (n+1) c,uA s] [.row (l.map uC) 47] (fun v H'=>v=.tuple [iA (findP s l),iA (8 * l.length)]∧H'=[.row (l.map uC) 47]):=by
 rw[←hn]
 exact sfind0 hl hb hs ⟨rfl,rfl⟩
theorem tat{l:List Tik}{n s:Nat}(hn:l.length=n)(h:TOk l)(hs:s<18446744073709551616):CP [] 188 [.ptr 0 0,uA s] (tabH l n) (fun v H'=>v=iA (atI l s)∧∃G,H'=tabH l n++G):=by
 refine fn_ok ev_ok rfl ?_
 rcases n with _|n
 ·obtain rfl:=List.eq_nil_of_length_eq_zero hn
  conv=>whnf
  refine slisted0.use [0] rfl rfl ⟨⟨_,rfl,rfl⟩,tU⟩ ?_
  rintro _ _ ⟨rfl,rfl⟩
  refine ⟨[],?_⟩
  conv=>whnf
  refine (sfindN (s:=s)).use [] rfl rfl trivial ?_
  rintro _ _ rfl
  refine ⟨[],?_⟩
  conv=>whnf
  exact ⟨congrArg iA (by unfold atI tikAt;split<;>simp_all),[],rfl⟩
 ·conv=>whnf
  refine (slisted1 hn (by have:=h.1;omega)).use [0,1] rfl rfl ⟨⟨_,rfl,rfl⟩,⟨_,rfl,rfl⟩,tU⟩ ?_
  rintro _ _ ⟨rfl,rfl⟩
  refine ⟨[2],?_⟩
  conv=>whnf
  refine (sfind1 (l:=l.map fun k=>k.secret) (by simpa using hn) (by simp;have:=h.1;omega) (by simpa using fun k hk=>(h.2 k hk).1) hs).use [2] rfl rfl ⟨⟨_,rfl,by simp[List.map_map];rfl⟩,tU⟩ ?_
  rintro _ _ ⟨rfl,rfl⟩
  refine ⟨[],?_⟩
  conv=>whnf
  exact ⟨congrArg iA (atI_findP l s),_,rfl⟩
theorem atI_ge(l:List Tik)(s:Nat):decide (atI l s≥0)=(tikAt l s).isSome:=by
 unfold atI
 cases h:tikAt l s<;>simp
theorem atI_lt(l:List Tik)(s:Nat):decide (atI l s<0)=(tikAt l s).isNone:=by
 unfold atI
 cases h:tikAt l s with
 | none=>simp
 | some i=>simp
theorem app_tik:AppT ev 294 tTik 10:=⟨⟨_,rfl,rfl⟩,_,_,rfl,rfl,rfl,rfl,by decide⟩
theorem TOk.take{l:List Tik}(h:TOk l)(k:Nat):TOk (l.take k):=⟨by rw[List.length_take];have:=h.1;omega,fun x hx=>h.2 x (List.mem_of_mem_take hx)⟩
theorem tik_cond(acc:List Tik)(k:Tik):(!k.g.right || decide (k.secret=0) || (tikAt acc k.secret).isSome || (decide (k.parent≠0)&&(tikAt acc k.parent).isNone))=(!k.g.right || ((k.secret:Int)==0) || decide (atI acc k.secret≥0) || (!((k.parent:Int)==0)&&decide (atI acc k.parent<0))):=by
 rw[atI_ge,atI_lt]
 have e:∀n:Nat,((n:Int)==0)=decide (n=0):=fun n=>by rw[Bool.eq_iff_iff];simp
 rw[e,e]
 simp
section
variable{r z a p b:Bool}
theorem fC1(h:r=false):(!r || z || a || (p&&b))=true:=by rw[h];rfl
theorem fC2(h:z=true):(!r || z || a || (p&&b))=true:=by rw[h];simp
theorem fC3(h:a=true):(!r || z || a || (p&&b))=true:=by rw[h];simp
theorem fC4(h:p=true)(h':b=true):(!r || z || a || (p&&b))=true:=by rw[h,h'];simp
theorem fC5(h:r=true)(h1:z=false)(h2:a=false)(h3:p=false):¬(!r || z || a || (p&&b))=true:=by rw[h,h1,h2,h3];simp
theorem fC6(h:r=true)(h1:z=false)(h2:a=false)(h3:b=false):¬(!r || z || a || (p&&b))=true:=by rw[h,h1,h2,h3];simp
end
def tikV(k:Tik):Value:=.agg (tC k).toArray
theorem tfromL{l:List Tik}{n c:Nat}{R:Res}{oa:Option Addr}(hn:l.length=n+1)(hx:RdV Tryz.prog R 96 10 oa tikV l)(hb:∀k∈l,k.secret<18446744073709551616∧k.parent<18446744073709551616) :
  CP [] 136 [.lit (.slice oa (n+1) c)] [.res R] (fun v H'=>match tikFrom l with
   | some _=>v=.tuple [.ptr 1 0,iA 0]∧∃G,H'=.res R::.cells [.slice 2 0 (n+1) (.grown 10)] tTab::.row (l.flatMap tC) tTik::G
   | none=>v=.tuple [.lit (.pointer none),iA 1]∧∃G,H'=.res R::G):=by
 refine fn_ok ev_ok rfl ?_
 repeat' ((conv=>whnf);first|with_reducible apply brP_of<;>intro _|refine WpS.drawn ev_ok rfl rfl ?_|with_reducible refine And.intro (AgP.mk ⟨_,rfl,rfl⟩) ?_|refine fn_ok ev_ok rfl ?_)
 all_goals conv=>whnf
 ·rename_i h
  have h:8<l.length:=by have:=of_decide_eq_true h;omega
  unfold tikFrom
  rw[if_pos h]
  exact ⟨rfl,_,rfl⟩
 ·rename_i h
  have h8:l.length≤8:=by have:=of_decide_eq_false h;omega
  have hT:TOk l:=⟨h8,hb⟩
  have hf:tikFrom l=tikFromF l []:=by unfold tikFrom;rw[if_neg (by omega)]
  refine loopP ev_ok rfl (fun k:Nat=>[(4,.ptr 1 0),(11,.lit (.slice oa (n+1) c)),(12,iA ((n+1:Nat):Int)),(13,iA (k:Nat))]) (fun k=>[.res R,.cells [svA 2 10 k] tTab]++svH ((l.take k).flatMap tC) tTik k)
   (fun k=>k≤n+1∧tikFrom l=tikFromF (l.drop k) (l.take k)) (fun k=>n+1 - k) 0 ⟨by omega,hf⟩ [0,1] ?_ ?_
  ·exact ⟨rfl,⟨⟨rfl,rfl⟩,⟨rfl,rfl⟩,⟨rfl,rfl⟩,⟨rfl,rfl⟩,tU⟩,⟨⟨_,rfl,kp⟩,⟨_,rfl,rfl⟩,tU⟩⟩
  ·rintro k ⟨hk0,hf2⟩
   by_cases hk:k<n+1
   ·have hkl:k<l.length:=by omega
    have hs:=take_snoc hkl
    have hd:l.drop k=l[k]::l.drop (k+1):=(List.drop_eq_getElem_cons hkl)
    rw[hd] at hf2
    simp only[tikFromF] at hf2
    rw[←hs,tik_cond] at hf2
    have hlk:=hb _ (List.getElem_mem hkl)
    obtain ⟨a,rfl,hrd⟩:=hx.at hkl
    rcases k with _|k
    ·conv=>whnf
     refine brP_of (fun _=>?_) (noF hk)
     conv=>whnf
     refine OpP.idxL ev_ok rfl rfl rfl rfl rfl hk ?_
     conv=>whnf
     refine OpP.loadR (i:=0) (v:=.agg ((tC l[_]).map .lit)) rfl (fun w S hR=>hrd w S hR _ hkl) rfl rfl ?_
     repeat' ((conv=>whnf);first|with_reducible apply brP_of<;>intro _|refine WpS.drawn ev_ok rfl rfl ?_|with_reducible refine And.intro (AgP.mk ⟨_,rfl,rfl⟩) ?_|refine sgright (g:=l[0].g) ?_|(refine (tat (l:=l.take (0)) (n:=0) (by simp<;>omega) (hT.take (0)) hlk.1).use [1] rfl rfl ⟨⟨_,rfl,rfl⟩,tU⟩ ?_;rintro _ _ ⟨rfl,G,rfl⟩;refine ⟨[],?_⟩)|(refine (tat (l:=l.take (0)) (n:=0) (by simp<;>omega) (hT.take (0)) hlk.2).use [1] rfl rfl ⟨⟨_,rfl,rfl⟩,tU⟩ ?_;rintro _ _ ⟨rfl,G,rfl⟩;refine ⟨[],?_⟩)|refine AppP.nil app_tik rfl rfl rfl rfl rfl ?_|refine fn_ok ev_ok rfl ?_)
     all_goals (try conv=>whnf)
     all_goals first
      | (rw[hf2];first|rw[if_pos (fC1 (by assumption))]|rw[if_pos (fC2 (by assumption))]|rw[if_pos (fC3 (by assumption))]|rw[if_pos (fC4 (by assumption) (by assumption))]
         exact ⟨rfl,_,rfl⟩)
      | (first|rw[if_neg (fC5 (by assumption) (by assumption) (by assumption) (by assumption))] at hf2|rw[if_neg (fC6 (by assumption) (by assumption) (by assumption) (by assumption))] at hf2
         exact ⟨0+1,[0,1,4],⟨⟨hk,hf2⟩,by omega⟩,rfl,⟨⟨rfl,rfl⟩,⟨rfl,rfl⟩,⟨rfl,rfl⟩,⟨rfl,subInt rfl rfl⟩,tU⟩,⟨⟨_,rfl,kp⟩,⟨_,rfl,rfl⟩,⟨_,rfl,by rw[hs,List.flatMap_append];rfl⟩,tU⟩⟩)
      | trace_state
    ·conv=>whnf
     refine brP_of (fun _=>?_) (noF hk)
     conv=>whnf
     refine OpP.idxL ev_ok rfl rfl rfl rfl rfl hk ?_
     conv=>whnf
     refine OpP.loadR (i:=0) (v:=.agg ((tC l[_]).map .lit)) rfl (fun w S hR=>hrd w S hR _ hkl) rfl rfl ?_
     repeat' ((conv=>whnf);first|with_reducible apply brP_of<;>intro _|refine WpS.drawn ev_ok rfl rfl ?_|with_reducible refine And.intro (AgP.mk ⟨_,rfl,rfl⟩) ?_|refine sgright (g:=l[k+1].g) ?_|(refine (tat (l:=l.take (k+1)) (n:=k+1) (by simp<;>omega) (hT.take (k+1)) hlk.1).use [1,2] rfl rfl ⟨⟨_,rfl,rfl⟩,⟨_,rfl,rfl⟩,tU⟩ ?_;rintro _ _ ⟨rfl,G,rfl⟩;refine ⟨[],?_⟩)|(refine (tat (l:=l.take (k+1)) (n:=k+1) (by simp<;>omega) (hT.take (k+1)) hlk.2).use [1,2] rfl rfl ⟨⟨_,rfl,rfl⟩,⟨_,rfl,rfl⟩,tU⟩ ?_;rintro _ _ ⟨rfl,G,rfl⟩;refine ⟨[],?_⟩)|refine AppP.own app_tik rfl rfl rfl rfl rfl rfl (by rw[flat_len tC_len,List.length_take];omega) (by omega) ?_|refine fn_ok ev_ok rfl ?_)
     all_goals (try conv=>whnf)
     all_goals first
      | (rw[hf2];first|rw[if_pos (fC1 (by assumption))]|rw[if_pos (fC2 (by assumption))]|rw[if_pos (fC3 (by assumption))]|rw[if_pos (fC4 (by assumption) (by assumption))]
         exact ⟨rfl,_,rfl⟩)
      | (first|rw[if_neg (fC5 (by assumption) (by assumption) (by assumption) (by assumption))] at hf2|rw[if_neg (fC6 (by assumption) (by assumption) (by assumption) (by assumption))] at hf2
         exact ⟨k+1+1,[0,1,5],⟨⟨hk,hf2⟩,by omega⟩,rfl,⟨⟨rfl,rfl⟩,⟨rfl,rfl⟩,⟨rfl,rfl⟩,⟨rfl,subInt rfl (wrap_in (by omega) (by omega))⟩,tU⟩,⟨⟨_,rfl,kp⟩,⟨_,rfl,rfl⟩,⟨_,rfl,by rw[hs,List.flatMap_append];rfl⟩,tU⟩⟩)
      | trace_state
   ·obtain rfl:k=n+1:=by omega
    rw[←hn,List.drop_length,List.take_length] at hf2
    rw[show (l.take (n+1))=l by rw[←hn,List.take_length],hf2]
    conv=>whnf
    refine brP_of (noT hk) (fun _=>?_)
    conv=>whnf
    exact ⟨rfl,_,rfl⟩
theorem tfromL0{oa:Option Addr}{c:Nat}{H:List AObj}:CP [] 136 [.lit (.slice oa 0 c)] [] (fun v H'=>v=.tuple [.ptr 0 0,iA 0]∧∃G,H'=tabH [] 0++G):=by
 refine fn_ok ev_ok rfl ?_
 repeat' ((conv=>whnf);first|with_reducible apply brP_of<;>intro _|refine fn_ok ev_ok rfl ?_)
 all_goals conv=>whnf
 refine RdS.loop 1 (RdS.step ev_ok rfl ?_)
 conv=>whnf
 exact ⟨rfl,[],rfl⟩
def tabR(a:Addr)(l:List Tik):Res:=AtR a 0 (tabH l l.length)
theorem tfromA{R:Res}{oa:Option Addr}{c:Nat}{l:List Tik}(hx:RdV Tryz.prog R 96 10 oa tikV l)(hb:∀k∈l,k.secret<18446744073709551616∧k.parent<18446744073709551616) :
  CP [] 136 [.lit (.slice oa l.length c)] [.res R] (fun v H'=>match tikFrom l with
   | some _=>∃a,v=.tuple [.lit (.pointer (some a)),iA 0]∧H'=[.res R,.res (tabR a l)]
   | none=>v=.tuple [.lit (.pointer none),iA 1]∧∃G,H'=.res R::G):=by
 rcases l with _|⟨k,l⟩
 ·have h0:tikFrom []=some []:=rfl
  rw[h0]
  refine CallS.lower (K':=fun v H'=>v=.tuple [.ptr 1 0,iA 0]∧∃G,H'=.res R::tabH [] 0++G) ?_ ?_
  ·refine (tfromL0 (oa:=oa) (c:=c) (H:=[])).use [] rfl rfl trivial ?_
   rintro _ _ ⟨rfl,G,rfl⟩
   refine ⟨[0],?_⟩
   conv=>whnf
   exact ⟨rfl,[],rfl⟩
  ·rintro _ _ ⟨rfl,G,rfl⟩
   refine ⟨[0],[1],1,0,tabH [] 0,[iA 0],⟨rfl,rfl,⟨⟨_,rfl,rfl⟩,tU⟩,⟨⟨_,rfl,rfl⟩,tU⟩,?_,fun _=>rfl⟩,rfl,fun a=>⟨a,rfl,rfl⟩⟩
   exact Ent.cons R (Ent.cons resNil (Ent.all _))
 ·have h1:=tfromL (n:=l.length) (c:=c) rfl hx hb
  cases hf:tikFrom (k::l) with
  | none=>
    rw[hf] at h1
    exact h1
  | some q=>
    rw[hf] at h1
    refine CallS.lower h1 ?_
    rintro _ _ ⟨rfl,G,rfl⟩
    refine ⟨[0],[1,2],1,0,tabH (k::l) (l.length+1),[iA 0],⟨rfl,rfl,⟨⟨_,rfl,rfl⟩,tU⟩,⟨⟨_,rfl,rfl⟩,⟨_,rfl,rfl⟩,tU⟩,?_,fun _=>rfl⟩,rfl,fun a=>⟨a,rfl,rfl⟩⟩
    exact Ent.cons R (Ent.cons resNil (Ent.cons resNil (Ent.all _)))
def evL(e:Evn):List Value:=[.int .i64 e.user,.int .i64 e.op,.int .i64 e.status,.int .i64 e.tick]
theorem evL_len(e:Evn):(evL e).length=4:=rfl
abbrev tEv:TypeId:=81
abbrev tTrl:TypeId:=241
theorem app_ev:AppT ev 26 tEv 4:=⟨⟨_,rfl,rfl⟩,_,_,rfl,rfl,rfl,rfl,by decide⟩
def trH(es:List Evn)(past:Int)(n:Nat):List AObj:=.cells [svA 1 4 n,iA past] tTrl::svH (es.flatMap evL) tEv n
def trR(a:Addr)(es:List Evn)(past:Int):Res:=AtR a 0 (trH es past es.length)
theorem aput'{a:Addr}{es:List Evn}{past:Int}{e:Evn}(hl:es.length≤60000):CP [] 56 [.lit (.pointer (some a)),.agg (evA e)] [.res (trR a es past)] (fun v H'=>v=bA true∧H'=[.res (trR a (es++[e]) past)]):=by
 rcases es with _|⟨e0,es⟩
 ·refine CallS.inR (K':=fun v H'=>v=bA true∧∃A B,H'=[.cells [.slice 3 0 1 (.grown 4),iA past] tTrl,A,B,.row (evL e) tEv]∧rsOf A=resNil∧rsOf B=resNil) ?_ (fun _=>rfl) ?_
  ·refine fn_ok ev_ok rfl ?_
   repeat' ((conv=>whnf);first|with_reducible apply brP_of<;>intro _|refine WpS.drawn ev_ok rfl rfl ?_|with_reducible refine And.intro (AgP.mk ⟨_,rfl,rfl⟩) ?_|refine AppP.nil app_ev rfl rfl rfl rfl rfl ?_)
   conv=>whnf
   exact ⟨rfl,_,_,rfl,rfl,rfl⟩
  ·rintro _ _ ⟨rfl,A,B,rfl,hA,hB⟩
   refine ⟨[0,3],trH ([]++[e]) past 1,⟨rfl,rfl,⟨⟨_,rfl,rfl⟩,⟨_,rfl,by simp[ObE,clr1,AObj.ren,vw,evL]⟩,tU⟩,?_,fun _=>rfl⟩,rfl,rfl⟩
   exact Ent.cons _ (Ent.nils _ |>.trans (Ent.cons _ (Ent.all _)))
 ·refine CallS.inR (K':=fun v H'=>v=bA true∧∃A B,H'=[.cells [.slice 4 0 (es.length+1+1) (.grown 4),iA past] tTrl,.dead,A,B,.row ((e0::es).flatMap evL++evL e) tEv]∧rsOf A=resNil∧rsOf B=resNil) ?_ (fun _=>rfl) ?_
  ·refine fn_ok ev_ok rfl ?_
   repeat' ((conv=>whnf);first|with_reducible apply brP_of<;>intro _|refine WpS.drawn ev_ok rfl rfl ?_|with_reducible refine And.intro (AgP.mk ⟨_,rfl,rfl⟩) ?_|refine AppP.own app_ev rfl rfl rfl rfl rfl rfl (by rw[flat_len evL_len];rfl) (by simp at hl;omega) ?_)
   conv=>whnf
   exact ⟨rfl,_,_,rfl,rfl,rfl⟩
  ·rintro _ _ ⟨rfl,A,B,rfl,hA,hB⟩
   refine ⟨[0,4],trH (e0::es++[e]) past (es.length+1+1),⟨rfl,rfl,⟨⟨_,rfl,rfl⟩,⟨_,rfl,by rw[List.flatMap_append];rfl⟩,tU⟩,?_,fun _=>rfl⟩,rfl,?_⟩
   ·exact Ent.cons _ (Ent.nils _ |>.trans (Ent.cons _ (Ent.all _)))
   ·unfold trR
    rw[show (e0::es++[e]).length=es.length+1+1 by simp]
def skipP(past n:Int):Bool×Int:=if n<0∨4611686018427387903 - past<n then (false,past) else (true,past+n)
theorem askip{a:Addr}{es:List Evn}{past n:Int}(hp:0≤past∧past≤4611686018427387903):CP [] 55 [.lit (.pointer (some a)),iA n] [.res (trR a es past)] (fun v H'=>v=bA (skipP past n).1∧H'=[.res (trR a es (skipP past n).2)]):=by
 have hw:IntKind.i64.wrap (4611686018427387903 - past)=4611686018427387903 - past:=wrap_in (by omega) (by omega)
 rcases hn:es.length with _|k
 all_goals
  unfold trR
  rw[hn]
  refine CallS.inR (K':=fun v H'=>v=bA (skipP past n).1∧H'=trH es (skipP past n).2 es.length) ?_ (fun _=>rfl) ?_
  ·rw[hn]
   refine fn_ok ev_ok rfl ?_
   repeat' ((conv=>whnf);with_reducible apply brP_of<;>intro _)
   all_goals conv=>whnf
   all_goals
    simp only[hw,decide_eq_true_eq,decide_eq_false_iff_not] at *
    unfold skipP
   ·rw[if_pos (by omega)];exact ⟨rfl,rfl⟩
   ·rw[if_pos (by omega)];exact ⟨rfl,rfl⟩
   ·rw[if_neg (by omega),wrap_in (n:=past+n) (by omega) (by omega)];exact ⟨rfl,rfl⟩
  ·rintro _ _ ⟨rfl,rfl⟩
   rw[hn]
   first
    | exact ⟨[0],trH es (skipP past n).2 0,⟨rfl,rfl,⟨⟨_,rfl,rfl⟩,tU⟩,.refl _,fun _=>rfl⟩,rfl,rfl⟩
    | exact ⟨[0,1],trH es (skipP past n).2 (k+1),⟨rfl,rfl,⟨⟨_,rfl,rfl⟩,⟨_,rfl,rfl⟩,tU⟩,.refl _,fun _=>rfl⟩,rfl,rfl⟩
theorem anew:CP [] 135 [] [] (fun v H'=>∃a,v=.lit (.pointer (some a))∧H'=[.res (trR a [] 0)]):=by
 refine CallS.lower (K':=fun v H'=>v=.ptr 0 0∧H'=trH [] 0 0) ?_ ?_
 ·refine fn_ok ev_ok rfl ?_
  repeat' ((conv=>whnf);with_reducible apply brP_of<;>intro _)
  exact ⟨rfl,rfl⟩
 ·rintro _ _ ⟨rfl,rfl⟩
  exact ⟨[],[0],0,0,trH [] 0 0,[],⟨rfl,rfl,tU,⟨⟨_,rfl,rfl⟩,tU⟩,.refl _,fun _=>rfl⟩,rfl,fun a=>⟨a,rfl,rfl⟩⟩
def rosR(a:Addr)(M:List (Int×Mem)):Res:=AtR a 1 (rosH M)
theorem ros_out{a:Addr}{M:List (Int×Mem)}{G:List AObj}{v:AV}(hv:∀g,v.ren g=v):InOk [0,1] 1 (rosH M++G) (rosH M) v:=
 ⟨rfl,rfl,⟨⟨_,rfl,rfl⟩,⟨_,rfl,rfl⟩,tU⟩,Ent.cons _ (Ent.cons _ (Ent.all _)),hv⟩
theorem renrolR{a:Addr}{M:List (Int×Mem)}{m:Mem}:CP [] 137 [.lit (.pointer (some a)),.agg (mA m)] [.res (rosR a M)] (fun v H'=>v=iA (enrolE M m)∧H'=[.res (rosR a (enrolM M m))]):=
 CallS.inR renrol (fun _=>rfl) fun v H' h=>by
  obtain ⟨rfl,G,rfl⟩:=h
  exact ⟨[0,1],rosH (enrolM M m),ros_out (a:=a) fun _=>rfl,rfl,rfl⟩
theorem rprofileR{a:Addr}{M:List (Int×Mem)}{u k ar:Int}:CP [] 138 [.lit (.pointer (some a)),iA u,.agg [iA k,uA ar]] [.res (rosR a M)] (fun v H'=>v=iA (profM u k ar M).1∧H'=[.res (rosR a (profM u k ar M).2)]):=
 CallS.inR rprofile (fun _=>rfl) fun v H' h=>by
  obtain ⟨rfl,G,rfl⟩:=h
  exact ⟨[0,1],rosH _,ros_out (a:=a) fun _=>rfl,rfl,rfl⟩
theorem rnewR:CP [] 131 [] [] (fun v H'=>∃a,v=.lit (.pointer (some a))∧H'=[.res (rosR a [(0,⟨0,0,0,65535,0,0⟩)])]):=by
 refine CallS.lower rnew ?_
 rintro _ _ ⟨rfl,G,rfl⟩
 exact ⟨[],[0,1],1,1,rosH _,[],⟨rfl,rfl,tU,⟨⟨_,rfl,rfl⟩,⟨_,rfl,rfl⟩,tU⟩,Ent.cons _ (Ent.cons _ (Ent.all _)),fun _=>rfl⟩,rfl,fun a=>⟨a,rfl,rfl⟩⟩
end Go.Proofs.YtmbdghclhpboaaaGreat
