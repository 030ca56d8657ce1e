/- Part of the proof: Lib Moves IMap Sep. Conditions: as each states. -/
import Derived.Test.YtmbdghclhpboaaaGreatPq0
import Derived.Deep.AppendLies
import Derived.Deep.Draws
import Derived.Carry
set_option linter.all false
namespace Go.Proofs.YtmbdghclhpboaaaGreat
open Go.RowKit
theorem tU:True:=trivial
theorem rr{α β:Type}{a:α}{b:β}:a=a/\b=b:=⟨rfl,rfl⟩
def ir(w:World)(b off:Nat)(xs:List Value):Prop:=∀j u,xs[j]?=some u->w.cell? ⟨b,off+j,none⟩=some u
theorem ir.of_heap{w w':World}{b off:Nat}{xs:List Value}(h:ir w b off xs)(e:w'.heap[b]?=w.heap[b]?):ir w' b off xs:=
 fun j u hu=>(World.cell?_of_block (a:=⟨b,off+j,none⟩) e).trans (h j u hu)
theorem ir.drop{w:World}{b off:Nat}{xs:List Value}(h:ir w b off xs)(k:Nat):ir w b (off+k) (xs.drop k):=
 fun j u hu=>by rw[Nat.add_assoc];exact h (k+j) u (by rw[<-hu,List.getElem?_drop])
theorem ir.take{w:World}{b off:Nat}{xs:List Value}(h:ir w b off xs)(k:Nat):ir w b off (xs.take k):=
 fun j u hu=>h j u (by
  rw[List.getElem?_take] at hu;split at hu
  ·exact hu
  ·cases hu)
theorem ir.left{w:World}{b off:Nat}{xs ys:List Value}(h:ir w b off (xs++ys)):ir w b off xs:=by
 have:=h.take xs.length;rwa [List.take_left] at this
theorem qX{α:Type}{k:Nat}{enc:α->List Value}(hk:∀a,(enc a).length=k)(l:List α):(l.flatMap enc).length=l.length * k:=by
 induction l with
 | nil=>simp
 | cons a l ih=>simp only[List.flatMap_cons,List.length_append,List.length_cons,ih,hk,Nat.add_mul];omega
theorem vq{α:Type}{k:Nat}{enc:α->List Value}(hk:∀a,(enc a).length=k):∀(l:List α) (i:Nat),(l.flatMap enc).drop (i * k)=(l.drop i).flatMap enc
 | [],i=>by simp
 | a::l,0=>by simp
 | a::l,i+1=>by
   have h1:(i+1) * k=(enc a).length+i * k:=by rw[hk,Nat.add_mul];omega
   rw[List.flatMap_cons,h1,List.drop_append,List.drop_succ_cons];rw[List.drop_of_length_le (Nat.le_add_right _ _),List.nil_append,Nat.add_sub_cancel_left];exact vq hk l i
theorem BF{α:Type}{k:Nat}{enc:α->List Value}(hk:∀a,(enc a).length=k):∀(l:List α) (i:Nat),(l.flatMap enc).take (i * k)=(l.take i).flatMap enc
 | [],i=>by simp
 | a::l,0=>by simp
 | a::l,i+1=>by
   have h1:(i+1) * k=(enc a).length+i * k:=by rw[hk,Nat.add_mul];omega
   rw[List.flatMap_cons,h1,List.take_append,List.take_succ_cons,List.flatMap_cons];rw[List.take_of_length_le (Nat.le_add_right _ _),Nat.add_sub_cancel_left,BF hk l i]
theorem ir.elem{α:Type}{k:Nat}{enc:α->List Value}(hk:∀a,(enc a).length=k){w:World}{b off:Nat}{l:List α}(h:ir w b off (l.flatMap enc))(i:Nat)(hi:i<l.length) :
  ir w b (off+i * k) (enc l[i]):=by
 have h1:=h.drop (i * k);rw[vq hk,List.drop_eq_getElem_cons hi,List.flatMap_cons] at h1;exact h1.left
structure AO{α:Type}(enc:α->List Value)(k:Nat):Prop where
 len:∀a,(enc a).length=k
 one:∀a,∀u∈enc a,u.oneCell'=true
def Sl{α:Type}(enc:α->List Value)(w:World)(B:Nat)(v:Value)(l:List α):Prop:=
 ∃A cap,v=.slice A l.length cap/\l.length<=cap/\cap<=maxLen/\(0<l.length->∃b off,A=some ⟨b,off,none⟩/\b<B/\ir w b off (l.flatMap enc))
section
variable{α:Type}{enc:α->List Value}{k:Nat}{w w':World}{B B':Nat}{v:Value}{l:List α}
theorem Sl.nil:Sl enc w B (.slice none 0 0) []:=⟨none,0,rfl,Nat.le_refl _,by unfold maxLen;omega,fun h=>absurd h (by simp)⟩
theorem Sl.mu(h:Sl enc w B v l)(hk:∀b,b<B->w'.heap[b]?=w.heap[b]?):Sl enc w' B v l:=by
 obtain ⟨A,cap,e,h1,h2,h3⟩:=h;exact ⟨A,cap,e,h1,h2,fun hp=>let ⟨b,off,e,hb,hl⟩:=h3 hp;⟨b,off,e,hb,hl.of_heap (hk b hb)⟩⟩
theorem Sl.more(h:Sl enc w B v l)(hB:B<=B'):Sl enc w B' v l:=by
 obtain ⟨A,cap,e,h1,h2,h3⟩:=h;exact ⟨A,cap,e,h1,h2,fun hp=>let ⟨b,off,e,hb,hl⟩:=h3 hp;⟨b,off,e,Nat.lt_of_lt_of_le hb hB,hl⟩⟩
theorem Sl.below(h:Sl enc w B v l)(hb:Below B w w'):Sl enc w' B v l:=h.mu fun b an=>hb.block b an
theorem Sl.TP{base:Nat}{e:TypeId}{k:Nat}(h:w.ownsRow base e k v l.length (l.flatMap enc)):Sl enc w w.heap.size v l:=by
 rcases h.2 with ⟨rfl,h0⟩|⟨g,cap,cur,rfl,_,hg,h1,h2,_⟩
 ·have:l=[]:=List.eq_nil_of_length_eq_zero h0;subst this;exact Sl.nil
 ·refine ⟨_,cap,rfl,h1,h2,fun hp=>⟨g,0,rfl,(Array.getElem?_eq_some_iff.1 hg).1,fun j u hu=>?_⟩⟩;have:=h.cells (g:=g) rfl j u hu;have BL:(⟨g,0,none⟩:Addr).add j=⟨g,0+j,none⟩:=by unfold Addr.add;split<;>simp_all
  rwa [BL] at this
end
def nu(w:World)(g:Nat)(t:TypeId)(cs:Array Value):Prop:=w.heap[g]?=some (.cells cs t (0,0))
section
variable{w w':World}{g:Nat}{t:TypeId}{cs:Array Value}
theorem nu.lt(h:nu w g t cs):g<w.heap.size:=(Array.getElem?_eq_some_iff.1 h).1
theorem nu.cell(h:nu w g t cs)(i:Nat):w.cell? ⟨g,i,none⟩=cs[i]?:=cell_of_row w g i cs t (0,0) h
theorem nu.frozen(h:nu w g t cs)(i:Nat):w.frozen? ⟨g,i,none⟩=false:=by
 unfold nu at h;simp[World.frozen?,h]
theorem nu.new(w:World)(t:TypeId)(cs:Array Value):nu (w.alloc (.cells cs t)) w.heap.size t cs:=heap_alloc_new w _
theorem nu.put(h:nu w g t cs)(i:Nat)(u:Value):nu (w.setCell ⟨g,i,none⟩ u) g t (cs.setIfInBounds i u):=by
 unfold nu at h ⊢;simp[World.setCell,Array.getElem?_modify,h]
theorem nu.lay(h:nu w g t cs):ir w g 0 cs.toList:=fun j u hu=>by
 rw[Nat.zero_add,h.cell];simpa using hu
theorem nu.is{a:Value}(h:nu w g t cs)(i:Nat)(hi:cs[i]?=some a):w.cell? ⟨g,i,none⟩=some a:=(h.cell i).trans hi
theorem below_drewN{B:Nat}{a w:World}(h:Below B a w)(n:Nat):Below B a (w.drewN n):=⟨h.os,h.tape,h.output,h.size,h.block⟩
end
structure LP(P:Program)(t e:TypeId)(k bytes:Nat):Prop where
 bp:P.underlying t=some (.slice e)
 inf:∃i z,P.info? e=some i/\i.zero=some z/\i.size=k/\i.bytes=bytes/\z.cells.size=k
 pos:0<k
theorem AO.flat{α:Type}{enc:α->List Value}{k:Nat}(h:AO enc k)(l:List α):∀u∈l.flatMap enc,u.oneCell'=true:=fun u hu=>by
 obtain ⟨a,_,h2⟩:=List.mem_flatMap.1 hu;exact h.one a u h2
def Own{α:Type}(enc:α->List Value)(k:Nat)(e:TypeId)(w:World)(base:Nat)(v:Value)(l:List α):Prop:=w.ownsRow base e k v l.length (l.flatMap enc)
section
variable{α:Type}{enc:α->List Value}{k:Nat}{e:TypeId}{w w':World}{base:Nat}{v:Value}{l:List α}
theorem Own.nil:Own enc k e w base (.slice none 0 0) []:=World.ownsRow_nil w base e k
theorem Own.sl(h:Own enc k e w base v l):Sl enc w w.heap.size v l:=Sl.TP h
theorem Own.alloc(h:Own enc k e w base v l)(o:Obj):Own enc k e (w.alloc o) base v l:=World.ownsRow.alloc h o
theorem Own.form(h:Own enc k e w base v l):∃A cap,v=.slice A l.length cap:=by
 rcases h.2 with ⟨rfl,h0⟩|⟨g,cap,cur,rfl,_⟩
 ·exact ⟨none,0,by rw[h0]⟩
 ·exact ⟨_,_,rfl⟩
theorem Own.lt(h:Own enc k e w base v l):∀g,v.ownBlock=some g->base<=g/\g<w.heap.size:=World.ownsRow.lt h
theorem Own.mu(h:Own enc k e w base v l)(hk:∀b,v.ownBlock=some b->w'.heap[b]?=w.heap[b]?):Own enc k e w' base v l:=by
 refine ⟨h.1,?_⟩;rcases h.2 with hn|⟨g,cap,cur,rfl,hb,hgg,rest⟩
 ·exact .inl hn
 ·exact .inr ⟨g,cap,cur,rfl,hb,(hk g rfl).trans hgg,rest⟩
theorem Own.TO{g:Nat}{cs:Array Value}(h:nu w g e cs)(hb:base<=g)(hc:cs.toList=l.flatMap enc)(hk:∀a,(enc a).length=k)(hm:l.length<=maxLen):Own enc k e w base (.slice (some ⟨g,0,none⟩) l.length l.length) l:=by
 have hl:cs.size=l.length * k:=by rw[<-Array.length_toList,hc,qX hk]
 exact ⟨qX hk l,.inr ⟨g,l.length,cs,rfl,hb,h,Nat.le_refl _,hm,hl,by rw[<-hl,<-Array.length_toList,List.take_length,hc]⟩⟩
theorem O9{P:Program}{t:TypeId}{bytes:Nat}{ops:Array Oper}{rest:List Oper}{o:Oper}{a:Act}{Q:Exit->Act->World->Prop}(E:LP P t e k bytes)(C:AO enc k)(hgd:o.guard=none)(s x:Operand)
  (ho:o.op=.call { callee:=.builtin .append,args:=#[s,x],argTypes:=#[t,t] }) (hs:a.eval s=v) (mq:Own enc k e w base v l)
  (y:α) (g c:Nat) (hx:a.eval x=.slice (some ⟨g,0,none⟩) 1 c) (lA:ir w g 0 (enc y)) (Zq:l.length+1<=maxLen) (wZ:(l.length+1) * bytes<=140737488355328) (W9:base<=w.heap.size)
  (h:∀g' cap w',Own enc k e w' base (.slice (some ⟨g',0,none⟩) (l.length+1) cap) (l++[y])->w.grownBy w' v.ownBlock->(v.ownBlock=some g'\/g'=w.heap.size)->g'<w'.heap.size ->
   wpList P ops Q rest (a.put o.dst (.slice (some ⟨g',0,none⟩) (l.length+1) cap)) w'):wpList P ops Q (o::rest) a w:=by
 obtain ⟨i,z,hi,hz,jD,sY,sk⟩:=E.inf;refine wpList_append_lies w hgd s x t ho base e i z k bytes E.bp hi hz jD sY sk E.pos v l.length _ hs mq ⟨g,0,none⟩ 1 c (enc y) hx (by rw[C.len,Nat.one_mul]) (fun j u hu=>?_) (C.one y) (by omega) Zq wZ W9 _ rfl (fun g' cap w' h1 h2 h3 h4=>h g' cap w' ?_ h2 h3 h4)
 ·have:=lA j u hu;have BL:(⟨g,0,none⟩:Addr).add j=⟨g,0+j,none⟩:=by unfold Addr.add;split<;>simp_all
  rwa [BL]
 ·unfold Own;rw[List.length_append,List.flatMap_append];simpa using h1
end
def oN(A:Option Addr)(c l size:Nat):Option Addr:=if c=l then A else A.map (·.add (l * size))
theorem u5{P:Program}{t e:TypeId}{size:Nat}(hu:P.underlying t=some (.slice e))(hs:∀w,(sizeOf e).run P w=.ok size w)(w:World)(A:Option Addr)(n c j:Nat)(k:IntKind)(hj:j<=n) :
  (Instr.slice t (.slice A n c) (some (.int k (j:Int))) none none).run P w=.ok (.slice (oN A c j size) (n - j) (c - j)) w:=by
 have h1:(0:Int)<=(j:Int)/\(j:Int)<=(n:Int):=by omega
 simp[Instr.slice,run_underlying hu,Instr.sliceBounds,Instr.sliceBound,asIntOf,h1,hs,oN,go_sem];intro h;omega
theorem DK{P:Program}{t e:TypeId}{size:Nat}(hu:P.underlying t=some (.slice e))(hs:∀w,(sizeOf e).run P w=.ok size w)(w:World)(A:Option Addr)(n c j:Nat)(k:IntKind)(hj:j<=c) :
  (Instr.slice t (.slice A n c) none (some (.int k (j:Int))) none).run P w=.ok (.slice A j c) w:=by
 have h1:(0:Int)<=(j:Int)/\(j:Int)<=(c:Int):=by omega
 simp[Instr.slice,run_underlying hu,Instr.sliceBounds,Instr.sliceBound,asIntOf,h1,hs,go_sem];intro h;omega
def VE(a b:Int):Int:=if b<a then b else a
def imax(a b:Int):Int:=if a<b then b else a
@[go_sem high] theorem Yz{P:Program}(w:World)(ts:Array TypeId)(t:TypeId)(k k':IntKind)(x y:Int):(Builtin.min_ ts t #[.int k x,.int k' y]).run P w=.ok (.int k (VE x y)) w:=by
 simp[Builtin.min_,Builtin.min2,VE]
@[go_sem high] theorem Yy{P:Program}(w:World)(ts:Array TypeId)(t:TypeId)(k k':IntKind)(x y:Int):(Builtin.max_ ts t #[.int k x,.int k' y]).run P w=.ok (.int k (imax x y)) w:=by
 simp[Builtin.max_,Builtin.max2,imax]
structure kA(S:List Nat)(w w':World):Prop where
 os:w'.os=w.os
 tape:w'.tape=w.tape
 output:w'.output=w.output
 size:w.heap.size<=w'.heap.size
 block:∀k,k<w.heap.size->k∉S->w'.heap[k]?=w.heap[k]?
section
variable{S T:List Nat}{w w' w'':World}
theorem kA.refl(S:List Nat)(w:World):kA S w w:=⟨rfl,rfl,rfl,Nat.le_refl _,fun _ _ _=>rfl⟩
theorem kA.trans(h:kA S w w')(k:kA T w' w'')(ht:∀x∈T,x∈S\/w.heap.size<=x):kA S w w'':=
 ⟨k.os.trans h.os,k.tape.trans h.tape,k.output.trans h.output,Nat.le_trans h.size k.size,fun i hi hs=>
  (k.block i (Nat.lt_of_lt_of_le hi h.size) (fun hc=>by rcases ht i hc with h1|h1<;>first|exact hs h1|omega)).trans (h.block i hi hs)⟩
theorem kA.below{B:Nat}(h:kA S w w')(hB:B<=w.heap.size)(hs:∀x∈S,B<=x):Below B w w':=
 ⟨h.os,h.tape,h.output,h.size,fun i hi=>h.block i (by omega) (fun hc=>by have:=hs i hc;omega)⟩
theorem kA.setCell(w:World)(p:Addr)(u:Value):kA [p.block] w (w.setCell p u):=
 ⟨rfl,rfl,rfl,by simp[World.setCell],fun k _ hn=>Below.heap_setCell w p u k (by simpa using hn)⟩
end
end Go.Proofs.YtmbdghclhpboaaaGreat
namespace Go.Proofs.YtmbdghclhpboaaaGreat
open Go.RowKit Go.MapKept
def K5(key:Int):List (Int×Value)->Nat->Option (Nat×Value)
 | [],_=>none
 | p::l,i=>if key=p.1 then some (i,p.2) else K5 key l (i+1)
def dM(key:Int)(v:Value)(l:List (Int×Value)):List (Int×Value):=
 match K5 key l 0 with
 | some (i,_)=>l.set i (key,v)
 | none=>l++[(key,v)]
def my(key:Int)(l:List (Int×Value)):List (Int×Value):=
 match K5 key l 0 with
 | some (i,_)=>l.eraseIdx i
 | none=>l
section
variable{P:Program}{q:IntKind}{w w':World}{b:Nat}{l:List (Int×Value)}{S:List Nat}
end
end Go.Proofs.YtmbdghclhpboaaaGreat
namespace Go.Proofs.YtmbdghclhpboaaaGreat
open Go.RowKit
structure aC where
 at_:World->(Nat->Prop)->Prop
 lt:∀{w:World} {S:Nat->Prop} {b:Nat},at_ w S->S b->b<w.heap.size
 mu:∀{w w':World} {S:Nat->Prop},at_ w S->(∀b,S b->w'.heap[b]?=w.heap[b]?)->at_ w' S
def bD:List aC->World->(Nat->Prop)->Prop
 | [],_,S=>∀b,¬S b
 | r::l,w,S=>∃S1 S2,r.at_ w S1/\bD l w S2/\(∀b,S1 b->S2 b->False)/\∀b,S b↔S1 b\/S2 b
theorem jq:∀{l:List aC} {w:World} {S:Nat->Prop} {b:Nat},bD l w S->S b->b<w.heap.size
 | [],_,_,b,h,hb=>absurd hb (h b)
 | r::l,w,S,b,⟨S1,S2,h1,h2,_,hS⟩,hb=>by
   rcases (hS b).1 hb with h|h
   ·exact r.lt h1 h
   ·exact jq h2 h
theorem iV:∀{l:List aC} {w w':World} {S:Nat->Prop},bD l w S->(∀b,S b->w'.heap[b]?=w.heap[b]?)->bD l w' S
 | [],_,_,_,h,_=>h
 | r::l,w,w',S,⟨S1,S2,h1,h2,hd,hS⟩,hk=>
   ⟨S1,S2,r.mu h1 fun b hb=>hk b ((hS b).2 (.inl hb)),iV h2 fun b hb=>hk b ((hS b).2 (.inr hb)),hd,hS⟩
theorem wx:∀{l:List aC} {w:World} {S T:Nat->Prop},bD l w S->(∀b,T b↔S b)->bD l w T
 | [],_,_,_,h,e=>fun b hb=>h b ((e b).1 hb)
 | r::l,w,S,T,⟨S1,S2,h1,h2,hd,hS⟩,e=>⟨S1,S2,h1,h2,hd,fun b=>(e b).trans (hS b)⟩
theorem dK:∀{l m:List aC} {w:World} {S:Nat->Prop},bD (l++m) w S↔∃S1 S2,bD l w S1/\bD m w S2/\(∀b,S1 b->S2 b->False)/\∀b,S b↔S1 b\/S2 b
 | [],m,w,S=>by
   constructor
   ·exact fun h=>⟨fun _=>False,S,fun _ h=>h,h,fun _ h=>h.elim,fun b=>by simp⟩
   ·rintro ⟨S1,S2,h1,h2,_,hS⟩;refine wx h2 fun b=>?_;rw[hS b];exact ⟨fun h=>h.elim (fun h=>absurd h (h1 b)) id,.inr⟩
 | r::l,m,w,S=>by
   constructor
   ·rintro ⟨A,T,hA,hT,hd,hS⟩;obtain ⟨T1,T2,k1,k2,kd,kS⟩:=dK.1 hT;refine ⟨fun b=>A b\/T1 b,T2,⟨A,T1,hA,k1,fun b x y=>hd b x ((kS b).2 (.inl y)),fun b=>Iff.rfl⟩,k2,fun b x y=>x.elim (fun x=>hd b x ((kS b).2 (.inr y))) (fun x=>kd b x y),fun b=>?_⟩;rw[hS b,kS b,or_assoc]
   ·rintro ⟨S1,S2,⟨A,T1,hA,k1,hd,fM⟩,h2,kd,hS⟩;refine ⟨A,fun b=>T1 b\/S2 b,hA,dK.2 ⟨T1,S2,k1,h2,fun b x y=>kd b ((fM b).2 (.inr x)) y,fun b=>Iff.rfl⟩,fun b x y=>y.elim (hd b x) (fun y=>kd b ((fM b).2 (.inl x)) y),fun b=>?_⟩;rw[hS b,fM b,or_assoc]
theorem JP{a p:aC}{l:List aC}{w:World}{S:Nat->Prop}(h:bD (a::p::l) w S):bD (p::a::l) w S:=by
 obtain ⟨A,T,hA,⟨P,L,hP,hL,d2,hT⟩,d1,hS⟩:=h;refine ⟨P,fun b=>A b\/L b,hP,⟨A,L,hA,hL,fun b x y=>d1 b x ((hT b).2 (.inr y)),fun b=>Iff.rfl⟩,fun b x y=>y.elim (fun y=>d1 b y ((hT b).2 (.inl x))) (d2 b x),fun b=>?_⟩;rw[hS b,hT b];exact ⟨fun h=>h.elim (fun h=>.inr (.inl h)) (fun h=>h.elim .inl (fun h=>.inr (.inr h))),fun h=>h.elim (fun h=>.inr (.inl h)) (fun h=>h.elim .inl (fun h=>.inr (.inr h)))⟩
def aC.star(l:List aC):aC:=⟨bD l,jq,iV⟩
structure YB(S:Nat->Prop)(w w':World):Prop where
 os:w'.os=w.os
 tape:w'.tape=w.tape
 output:w'.output=w.output
 size:w.heap.size<=w'.heap.size
 block:∀k,k<w.heap.size->¬S k->w'.heap[k]?=w.heap[k]?
section
variable{B:Nat}{w0 w w':World}{L M:List aC}{r r' a b c d p:aC}
end
def aA{α:Type}(enc:α->List Value)(k:Nat)(e:TypeId)(v:Value)(l:List α):aC:=
 ⟨fun w S=>Own enc k e w 0 v l/\∀b,S b↔v.ownBlock=some b,fun h hb=>(h.1.lt _ ((h.2 _).1 hb)).2,fun h hk=>⟨h.1.mu fun b hb=>hk b ((h.2 b).2 hb),h.2⟩⟩
section
variable{B:Nat}{w0 w w':World}{L:List aC}{g:Nat}{t:TypeId}{cs:Array Value}{α:Type}{enc:α->List Value}{k:Nat}{e:TypeId}{v v':Value}{l l':List α}
end
