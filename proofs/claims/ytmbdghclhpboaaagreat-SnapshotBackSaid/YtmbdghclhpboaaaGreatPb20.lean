/- Part of the proof: Secret SEqual Tok Ros Cell. Conditions: as each states. -/
import Derived.Test.YtmbdghclhpboaaaGreatPb17
import Derived.StillTailTactics
import Derived.Test.YtmbdghclhpboaaaGreatPb19
set_option linter.all false
set_option maxRecDepth 100000
set_option maxHeartbeats 8000000
namespace Go.Proofs.YtmbdghclhpboaaaGreat
open Go.RowKit
theorem wrap_u8(n:Int):IntKind.u8.wrap n=n % 256:=by simp[IntKind.wrap,IntKind.bits,IntKind.signed]
theorem bits_xor_u8(a b:Nat)(ha:a<256)(hb:b<256):bits .xor .u8 (a:Int) (b:Int)=((a ^^^ b:Nat):Int):=by
 have hx:a ^^^ b<2 ^ 8:=Nat.xor_lt_two_pow (by omega) (by omega)
 have h1:(BitVec.ofInt 8 (a:Int)).toNat=a:=by
  rw[BitVec.ofInt_natCast,BitVec.toNat_ofNat];exact Nat.mod_eq_of_lt (by omega)
 have h2:(BitVec.ofInt 8 (b:Int)).toNat=b:=by
  rw[BitVec.ofInt_natCast,BitVec.toNat_ofNat];exact Nat.mod_eq_of_lt (by omega)
 show IntKind.u8.wrap ((BitVec.ofInt 8 (a:Int) ^^^ BitVec.ofInt 8 (b:Int)).toNat:Int)=_
 rw[BitVec.toNat_xor,h1,h2,wrap_u8]
 omega
theorem bits_or_u8(a b:Nat)(ha:a<256)(hb:b<256):bits .or .u8 (a:Int) (b:Int)=((a ||| b:Nat):Int):=by
 have hx:a ||| b<2 ^ 8:=Nat.or_lt_two_pow (by omega) (by omega)
 have h1:(BitVec.ofInt 8 (a:Int)).toNat=a:=by
  rw[BitVec.ofInt_natCast,BitVec.toNat_ofNat];exact Nat.mod_eq_of_lt (by omega)
 have h2:(BitVec.ofInt 8 (b:Int)).toNat=b:=by
  rw[BitVec.ofInt_natCast,BitVec.toNat_ofNat];exact Nat.mod_eq_of_lt (by omega)
 show IntKind.u8.wrap ((BitVec.ofInt 8 (a:Int) ||| BitVec.ofInt 8 (b:Int)).toNat:Int)=_
 rw[BitVec.toNat_or,h1,h2,wrap_u8]
 omega
def Cmp(w:World)(c:Nat)(va vb:Value)(p n:Nat):Prop:=Blk w c 525 #[va,vb,.int .u8 (p:Int),.int .i64 (n:Int)]
theorem sstep_ok(w:World)(c:Nat)(va vb:Value)(p n:Nat)(xs ys:List UInt8)(i:Nat)(B:Nat)(h:Cmp w c va vb p n)
  (ha:Sl byC w B va xs) (hb:Sl byC w B vb ys) (hx:xs.length=8) (hy:ys.length=8) (hi:i<8) (hp:p<256) (hn1:n<1000) :
  Calls Tryz.prog 452 #[.pointer (some ⟨c,0,none⟩),.int .i64 i] w fun e w'=>e=.returned (.tuple #[])∧Cmp w' c va vb (p ||| (xs[i].toNat ^^^ ys[i].toNat)) (n+1)∧Moves [c] w w':=by
 obtain ⟨A,cap,rfl,ha1,ha2,ha3⟩:=ha
 obtain ⟨A',cap',rfl,hb1,hb2,hb3⟩:=hb
 obtain ⟨ab,ao,rfl,haB,haL⟩:=ha3 (by omega)
 obtain ⟨bb,bo,rfl,hbB,hbL⟩:=hb3 (by omega)
 have e1:=(haL.elem byC_len i (by omega)).by
 have e2:=(hbL.elem byC_len i (by omega)).by
 rw[Nat.mul_one] at e1 e2
 have hq:=bits_xor_u8 xs[i].toNat ys[i].toNat (UInt8.toNat_lt _) (UInt8.toNat_lt _)
 have hx8:xs[i].toNat ^^^ ys[i].toNat<2 ^ 8:=Nat.xor_lt_two_pow (UInt8.toNat_lt _) (UInt8.toNat_lt _)
 have hr:=bits_or_u8 p (xs[i].toNat ^^^ ys[i].toNat) hp (by omega)
 unfold Cmp at h ⊢
 rw[hx,hy] at h
 generalize xs[i].toNat ^^^ ys[i].toNat=z at hq hr hx8 ⊢
 generalize xs[i].toNat=x at e1 hq
 generalize ys[i].toNat=y at e2 hq
 rw[hx,hy]
 have c0:w.cell? ⟨c,0,none⟩=some (.slice (some ⟨ab,ao,none⟩) 8 cap):=h.is 0 rfl
 have c1:w.cell? ⟨c,1,none⟩=some (.slice (some ⟨bb,bo,none⟩) 8 cap'):=h.is 1 rfl
 have c2:w.cell? ⟨c,2,none⟩=some (.int .u8 (p:Int)):=h.is 2 rfl
 have c3:w.cell? ⟨c,3,none⟩=some (.int .i64 (n:Int)):=h.is 3 rfl
 have f2:=h.frozen 2
 have f3:=h.frozen 3
 have HI:(i:Int)<8:=by omega
 have HH:=Lib.hid h
 clear h haL hbL ha3 hb3 ha1 ha2 hb1 hb2
 go_enter Tryz.func452,Tryz.ntmps452
 go_wp2
 go_still_tail 22,(by kernel_rfl)
 ·
  go_wp2
  refine bodyPost_end (results_none rfl _ _ _) rfl ?_
  refine ⟨rfl,?_,?_⟩
  ·have h1:=(HH.out.put 2 (.int .u8 ((p ||| z:Nat):Int))).put 3 (.int .i64 ((n:Int)+1))
   simp only[List.setIfInBounds_toArray,List.set_cons_succ,List.set_cons_zero] at h1
   exact h1
  ·have m1:=(Moves.setCell w ⟨c,2,none⟩ (.int .u8 ((p ||| z:Nat):Int))).trans (Moves.setCell _ ⟨c,3,none⟩ (.int .i64 ((n:Int)+1))) (by simp)
   exact ⟨m1.os,m1.tape,m1.output,m1.size,m1.block⟩
theorem xor_zero_iff(a b:Nat):a ^^^ b=0↔a=b:=by
 constructor
 ·intro h
  have:=congrArg (· ^^^ b) h
  simpa [Nat.xor_assoc,Nat.xor_self] using this
 ·rintro rfl
  exact Nat.xor_self _
def dif(xs ys:List UInt8):Nat→Nat
 | 0=>0
 | k+1=>dif xs ys k ||| ((xs.getD k 0).toNat ^^^ (ys.getD k 0).toNat)
theorem dif_lt(xs ys:List UInt8):∀k,dif xs ys k<256
 | 0=>Nat.succ_pos _
 | k+1=>by
   have h1:=dif_lt xs ys k
   have h2:(xs.getD k 0).toNat ^^^ (ys.getD k 0).toNat<2 ^ 8:=Nat.xor_lt_two_pow (UInt8.toNat_lt _) (UInt8.toNat_lt _)
   exact Nat.or_lt_two_pow (n:=8) h1 h2
theorem dif_zero(xs ys:List UInt8):∀k,dif xs ys k=0↔∀i,i<k→xs.getD i 0=ys.getD i 0
 | 0=>by simp[dif]
 | k+1=>by
   rw[dif,Nat.or_eq_zero_iff,dif_zero xs ys k,xor_zero_iff]
   constructor
   ·rintro ⟨h1,h2⟩ i hi
    rcases Nat.lt_succ_iff_lt_or_eq.1 hi with h|rfl
    ·exact h1 i h
    ·exact UInt8.toNat_inj.1 h2
   ·intro h
    exact ⟨fun i hi=>h i (by omega),by rw[h k (by omega)]⟩
theorem sall_ok(w:World)(c:Nat)(va vb:Value)(xs ys:List UInt8)(B:Nat)(h:Cmp w c va vb 0 0)
  (ha:Sl byC w B va xs) (hb:Sl byC w B vb ys) (hx:xs.length=8) (hy:ys.length=8) (hB:B≤c) (hB1:B≤w.heap.size) :
  Calls Tryz.prog 451 #[.pointer (some ⟨c,0,none⟩),.func (.func 452) #[] #[]] w fun e w'=>e=.returned (.tuple #[])∧Cmp w' c va vb (dif xs ys 8) 8∧Moves [c] w w':=by
 have HH:=Lib.hid h
 have HA:=Lib.hid ha
 have HBB:=Lib.hid hb
 clear h ha hb
 go_enter Tryz.func451,Tryz.ntmps451
 go_wp2
 go_loopw [4,5] (fun _ iv wr=>∃i:Nat,i≤8∧iv=.int .i64 (i:Int)∧Cmp wr c va vb (dif xs ys i) i∧Moves [c] w wr) (fun _ iv _=>(8 - intOf iv).toNat)
 case atStart=>exact ⟨0,by omega,rfl,HH.out,Moves.refl _ _⟩
 case round=>
  obtain ⟨i,hi,rfl,hc,hm⟩:=hrel
  have hwr:=hm.size
  have HC:=Lib.hid hc
  have HM:=Lib.hid hm
  clear hc hm
  by_cases hlt:i<8
  ·have hA:=HA.out.keep (w':=wr) fun b hb=>HM.out.block b (by omega) (by simp;omega)
   have hV:=HBB.out.keep (w':=wr) fun b hb=>HM.out.block b (by omega) (by simp;omega)
   have HS:=Lib.hid (sstep_ok wr c va vb (dif xs ys i) i xs ys i B HC.out hA hV hx hy hlt (dif_lt _ _ _) (by omega))
   clear hA hV
   have hli:(i:Int)<8:=by omega
   go_wp2_with fail
   refine HS.out.mono ?_
   rintro e w2 ⟨rfl,hc2,hm2⟩
   have HC2:=Lib.hid hc2
   have HM2:=Lib.hid (HM.out.trans hm2 (by simp))
   clear hc2 hm2
   go_wp2
   go_roundw
   case rel=>
    refine ⟨i+1,by omega,by go_num,?_,HM2.out⟩
    have e1:xs.getD i 0=xs[i]:=by simp[List.getD,hx,hlt]
    have e2:ys.getD i 0=ys[i]:=by simp[List.getD,hy,hlt]
    rw[dif,e1,e2]
    exact HC2.out
   case measure=>simp[intOf];omega
  ·obtain rfl:i=8:=by omega
   go_wp2
   refine bodyPost_end (results_none rfl _ _ _) rfl ?_
   exact ⟨rfl,HC.out,HM.out⟩
theorem toBE_inj8{a b:Nat}(ha:a<18446744073709551616)(hb:b<18446744073709551616):dif (toBE 8 a) (toBE 8 b) 8=0↔a=b:=by
 rw[dif_zero]
 constructor
 ·intro h
  have e:toBE 8 a=toBE 8 b:=by
   apply List.ext_getElem (by rw[toBE_len,toBE_len])
   intro i h1 h2
   have h3:=h i (by rw[toBE_len] at h1;exact h1)
   simpa [List.getD,h1,h2] using h3
  have:=congrArg beNat e
  rwa [beNat_toBE 8 a (by omega),beNat_toBE 8 b (by omega)] at this
 ·rintro rfl i _
  rfl
theorem sequal_ok(a b:Nat)(w:World)(ha:a<18446744073709551616)(hb:b<18446744073709551616) :
  Calls Tryz.prog 364 #[.int .u64 a,.int .u64 b] w fun e w'=>e=.returned (.tuple #[.bool (decide (a=b)),.int .i64 8])∧Below w.heap.size w w':=by
 have HPA:=Lib.hid (fun w=>put_ok a 8 w (by omega) (by omega) ha (by omega))
 have HPB:=Lib.hid (fun w=>put_ok b 8 w (by omega) (by omega) hb (by omega))
 have HD:=Lib.hid (toBE_inj8 ha hb)
 clear ha hb
 go_enter Tryz.func364,Tryz.ntmps364
 go_wp2_with fail
 refine (HPA.out _).mono ?_
 rintro e w1 ⟨va,rfl,hva,hb1⟩
 obtain ⟨A,ca,rfl⟩:=hva.form
 rw[toBE_len] at hva ⊢
 have HVA:=Lib.hid hva.sl
 have HB1:=Lib.hid hb1
 clear hva hb1
 go_wp2_with fail
 refine (HPB.out _).mono ?_
 rintro e w2 ⟨vb,rfl,hvb,hb2⟩
 obtain ⟨A',cb,rfl⟩:=hvb.form
 rw[toBE_len] at hvb ⊢
 have HVB:=Lib.hid hvb.sl
 have HVA2:=Lib.hid (HVA.out.below hb2)
 have HB2:=Lib.hid (HB1.out.trans (hb2.mono HB1.out.size))
 have HS2:=Lib.hid hb2.size
 clear hvb hb2
 have hn:=Blk.new w2 525 #[.slice A 8 ca,.slice A' 8 cb,.int .u8 0,.int .i64 0]
 have HA3:=Lib.hid (sall_ok (w2.alloc (.cells #[.slice A 8 ca,.slice A' 8 cb,.int .u8 0,.int .i64 0] 525)) w2.heap.size (.slice A 8 ca) (.slice A' 8 cb) (toBE 8 a) (toBE 8 b) w2.heap.size hn ((HVA2.out.below ((Below.refl _ w2).alloc HS2.out _)).more HS2.out) (HVB.out.below ((Below.refl _ w2).alloc (Nat.le_refl _) _)) (toBE_len _ _) (toBE_len _ _) (Nat.le_refl _) (by simp))
 clear hn
 go_wp2_with fail
 refine HA3.out.mono ?_
 rintro e w3 ⟨rfl,hc3,hm3⟩
 have c2:w3.cell? ⟨w2.heap.size,2,none⟩=some (.int .u8 ((dif (toBE 8 a) (toBE 8 b) 8:Nat):Int)):=Blk.is hc3 2 rfl
 have c3:w3.cell? ⟨w2.heap.size,3,none⟩=some (.int .i64 ((8:Nat):Int)):=Blk.is hc3 3 rfl
 have HB3:=Lib.hid ((HB2.out.alloc HB2.out.size (.cells #[.slice A 8 ca,.slice A' 8 cb,.int .u8 0,.int .i64 0] 525)).trans (hm3.below (B:=w.heap.size) (by have:=HB2.out.size;simp;omega) (by have:=HB2.out.size;simpa using this)))
 clear hc3 hm3
 generalize dif (toBE 8 a) (toBE 8 b) 8=d at c2 HD
 go_wp2_with fail
 go_quiet (fail)
 go_wp2_with fail
 go_ret2
 have hd:((d:Int)==0)=decide (a=b):=by
  by_cases h:a=b
  ·have:=HD.out.2 h
   subst this
   simp[h]
  ·have h1:d≠0:=fun e=>h (HD.out.1 e)
   rw[decide_eq_false h]
   simpa using h1
 refine ⟨?_,below_drewN HB3.out _⟩
 rw[←hd]
 rfl
end Go.Proofs.YtmbdghclhpboaaaGreat
namespace Go.Proofs.YtmbdghclhpboaaaGreat
open Ev
abbrev iA(n:Int):AV:=.lit (.int .i64 n)
abbrev uA(n:Int):AV:=.lit (.int .u64 n)
abbrev bA(b:Bool):AV:=.lit (.bool b)
abbrev CP(S:List Nat)(f:Nat)(args:List AV)(H:List AObj)(K:AV→List AObj→Prop):Prop:=CallS Tryz.prog S f args H K
theorem bA_eq{a b:Bool}(h:a=b):bA a=bA b:=by rw[h]
section
variable{S:List Nat}{H:List AObj}{K:AV→List AObj→Prop}
theorem sright{x0 y0 x1 y1:Int}(k:K (bA (rcOk x0 y0 x1 y1)) H):CP S 215 [.agg [iA x0,iA y0,iA x1,iA y1]] H K:=by
 refine CallS.pure ?_ (fun _=>rfl) (fun _=>rfl) k
 refine fn_ok ev_ok rfl ?_
 repeat' ((conv=>whnf);first|with_reducible apply brP_of<;>intro _|refine fn_ok ev_ok rfl ?_)
 all_goals
  refine bA_eq ?_
  simp_all [rcOk]
 all_goals omega
theorem sgright{g:Gra}(k:K (bA g.right) H):CP S 225 [.agg [iA g.ops,iA g.zoom,iA g.x0,iA g.y0,iA g.x1,iA g.y1,bA g.void,iA g.till]] H K:=by
 refine CallS.pure ?_ (fun _=>rfl) (fun _=>rfl) k
 refine fn_ok ev_ok rfl ?_
 repeat' ((conv=>whnf);first|with_reducible apply brP_of<;>intro _|refine sright ?_)
 all_goals
  refine bA_eq ?_
  simp_all [Gra.right]
 all_goals omega
theorem subInt{t:Tmps}{i:Nat}{n m:Int}{g:Nat→Nat}(h:t.get i=some (iA m))(e:m=n):t.get i=some ((iA n).ren g):=by rw[h,e];rfl
def uC(n:Nat):Value:=.int .u64 n
def findP(s:Nat)(l:List Nat):Int:=match (if s=0 then none else l.findIdx? (fun x=>decide (x=s))) with
 | some i=>i
 | none=>-1
theorem findP_snoc(s x:Nat)(l:List Nat):findP s (l++[x])=if x=s∧findP s l<0∧s≠0 then (l.length:Int) else findP s l:=by
 unfold findP
 by_cases h0:s=0
 ·simp[h0]
 ·simp only[h0,if_false,List.findIdx?_append]
  cases h:l.findIdx? (fun x=>decide (x=s)) with
  | some i=>simp;omega
  | none=>
    by_cases hx:x=s<;>simp[hx,List.findIdx?_cons,h0]
theorem take_snoc{α:Type}{l:List α}{k:Nat}(h:k<l.length):l.take (k+1)=l.take k++[l[k]]:=List.take_succ_eq_append_getElem h
theorem wrap_in{n:Int}(h1:-9223372036854775808≤n)(h2:n≤9223372036854775807):IntKind.i64.wrap n=n:=IntWalk.i64_in n ⟨h1,h2⟩
theorem noF{a b:Nat}{X:Prop}(k:a<b)(h:decide ((a:Int)<(b:Int))=false):X:=by
 rw[decide_eq_false_iff_not] at h
 exact absurd (Int.ofNat_lt.2 k) h
theorem noT{a b:Nat}{X:Prop}(k:¬a<b)(h:decide ((a:Int)<(b:Int))=true):X:=by
 rw[decide_eq_true_iff] at h
 exact absurd (Int.ofNat_lt.1 h) k
theorem sfind0{l:List Nat}{s:Nat}{c:Cap}(hl:l.length≤1000)(hb:∀x∈l,x<18446744073709551616)(hs:s<18446744073709551616){K:AV→List AObj→Prop}
  (kK:K (.tuple [iA (findP s l),iA (8 * l.length)]) [.row (l.map uC) 47]):CP [] 275 [.slice 0 0 l.length c,uA s] [.row (l.map uC) 47] K:=by
 refine fn_ok ev_ok rfl ?_
 conv=>whnf
 refine loopP ev_ok rfl (fun k=>[(1,uA s),(12,.slice 0 0 l.length c),(13,iA l.length),(14,iA (k:Nat)),(6,iA (findP s (l.take k))),(7,iA (8 * k))]) (fun _=>[.row (l.map uC) 47]) (·≤l.length) (fun k=>l.length - k) 0 (Nat.zero_le _) [0] ?_ ?_
 ·exact ⟨rfl,⟨⟨rfl,rfl⟩,⟨rfl,rfl⟩,⟨rfl,rfl⟩,⟨rfl,rfl⟩,⟨rfl,subInt rfl (by simp[findP])⟩,⟨rfl,rfl⟩,tU⟩,⟨⟨_,rfl,rfl⟩,tU⟩⟩
 ·intro k hk0
  conv=>whnf
  by_cases hk:k<l.length
  ·refine brP_of (fun _=>?_) (noF hk)
   conv=>whnf
   refine IdxP.of rfl hk ?_
   conv=>whnf
   refine RowP.val hk ?_
   conv=>whnf
   refine CallS.of_calls ev_ok rfl rfl (sequal_ok l[k] s · (hb _ (List.getElem_mem hk)) hs) ?_
   have hsn:=findP_snoc s l[k] (l.take k)
   rw[←take_snoc hk,List.length_take,Nat.min_eq_left (Nat.le_of_lt hk)] at hsn
   repeat' ((conv=>whnf);with_reducible apply brP_of<;>intro _)
   all_goals
    refine ⟨k+1,[0],⟨hk,by omega⟩,rfl,⟨⟨rfl,rfl⟩,⟨rfl,rfl⟩,⟨rfl,rfl⟩,⟨rfl,subInt rfl (wrap_in (by omega) (by omega))⟩,⟨rfl,subInt rfl ?_⟩,⟨rfl,subInt rfl ?_⟩,tU⟩,⟨⟨_,rfl,rfl⟩,tU⟩⟩
   all_goals first
    | exact wrap_in (by omega) (by omega)
    | (simp_all;done)
    | (rw[hsn];simp_all;done)
    | (rw[hsn,if_neg];simp_all;try omega)
  ·obtain rfl:k=l.length:=by omega
   refine brP_of (noT hk) (fun _=>?_)
   rw[List.take_length]
   conv=>whnf
   exact kK
end
def svA(o size:Nat):Nat→AV
 | 0=>.lit (.slice none 0 0)
 | k+1=>.slice o 0 (k+1) (.grown size)
def svH(xs:List Value)(e:TypeId):Nat→List AObj
 | 0=>[]
 | _+1=>[.row xs e]
theorem app_u64:AppT ev 372 47 1:=⟨⟨_,rfl,rfl⟩,_,_,rfl,rfl,rfl,rfl,by decide⟩
def tC(k:Tik):List Value:=[.int .u64 k.secret,.int .u64 k.parent,.int .i64 k.g.ops,.int .i64 k.g.zoom,.int .i64 k.g.x0,.int .i64 k.g.y0,.int .i64 k.g.x1,.int .i64 k.g.y1,.bool k.g.void,.int .i64 k.g.till]
theorem tC_len(k:Tik):(tC k).length=10:=rfl
theorem skey{S:List Nat}{k:Tik}{H:List AObj}{K:AV→List AObj→Prop}(h:K (uA k.secret) H):CP S 262 [.agg ((tC k).map .lit)] H K:=by
 refine CallS.pure ?_ (fun _=>rfl) (fun _=>rfl) h
 refine fn_ok ev_ok rfl ?_
 conv=>whnf
 repeat' ((conv=>whnf);with_reducible apply brP_of<;>intro _)
 all_goals rfl
theorem slisted{l:List Tik}{c:Cap}(hl:l.length≤1000){K:AV→List AObj→Prop}(hK:∀n,n=l.length→K (svA 2 1 n) ([.cells [.slice 1 0 l.length c] 296,.row (l.flatMap tC) 293]++svH (l.map fun k=>uC k.secret) 47 n)) :
  CP [] 261 [.ptr 0 0,.lit (.func (.func 262) #[] #[])] [.cells [.slice 1 0 l.length c] 296,.row (l.flatMap tC) 293] K:=by
 refine fn_ok ev_ok rfl ?_
 conv=>whnf
 refine loopP ev_ok rfl (fun k=>[(1,.lit (.func (.func 262) #[] #[])),(11,.slice 1 0 l.length c),(12,iA l.length),(13,iA (k:Nat)),(5,svA 2 1 k)]) (fun k=>[.cells [.slice 1 0 l.length c] 296,.row (l.flatMap tC) 293]++svH ((l.take k).map fun k=>uC k.secret) 47 k) (·≤l.length) (fun k=>l.length - k) 0 (Nat.zero_le _) [0,1] ?_ ?_
 ·exact ⟨rfl,⟨⟨rfl,rfl⟩,⟨rfl,rfl⟩,⟨rfl,rfl⟩,⟨rfl,rfl⟩,⟨rfl,rfl⟩,tU⟩,⟨⟨_,rfl,rfl⟩,⟨_,rfl,rfl⟩,tU⟩⟩
 ·intro k hk0
  by_cases hk:k<l.length
  ·have hs:=take_snoc hk
   rcases k with _|k
   all_goals
    conv=>whnf
    refine brP_of (fun _=>?_) (noF hk)
    conv=>whnf
    refine IdxP.of rfl hk ?_
    conv=>whnf
    refine RowP.elem tC_len hk ?_
    conv=>whnf
    refine skey ?_
    conv=>whnf
    first
     | refine AppP.nil app_u64 rfl rfl rfl rfl rfl ?_
     | refine AppP.own app_u64 rfl rfl rfl rfl rfl rfl (by simp;omega) (by omega) ?_
    conv=>whnf
   ·exact ⟨1,[0,1,4],⟨hk,by omega⟩,rfl,⟨⟨rfl,rfl⟩,⟨rfl,rfl⟩,⟨rfl,rfl⟩,⟨rfl,subInt rfl rfl⟩,⟨rfl,rfl⟩,tU⟩,⟨⟨_,rfl,rfl⟩,⟨_,rfl,rfl⟩,⟨_,rfl,by rw[hs];rfl⟩,tU⟩⟩
   ·exact ⟨k+2,[0,1,5],⟨hk,by omega⟩,rfl,⟨⟨rfl,rfl⟩,⟨rfl,rfl⟩,⟨rfl,rfl⟩,⟨rfl,subInt rfl (wrap_in (by omega) (by omega))⟩,⟨rfl,rfl⟩,tU⟩,⟨⟨_,rfl,rfl⟩,⟨_,rfl,rfl⟩,⟨_,rfl,by rw[hs,List.map_append];rfl⟩,tU⟩⟩
  ·have hk1:k=l.length:=by omega
   have ht:l.take k=l:=by rw[hk1,List.take_length]
   rcases k with _|k
   all_goals
    conv=>whnf
    refine brP_of (noT hk) (fun _=>?_)
    conv=>whnf
    rw[ht]
    exact hK _ hk1
structure Mem where
 user:Int
 role:Int
 tier:Int
 quota:Int
 k:Int
 area:Int
def mC(m:Mem):Value:=.agg #[.int .i64 m.user,.int .i64 m.role,.int .i64 m.tier,.int .i64 m.quota,.int .i64 m.k,.int .u64 m.area]
def mA(m:Mem):List AV:=[iA m.user,iA m.role,iA m.tier,iA m.quota,iA m.k,uA m.area]
abbrev iK(i:Int):Value:=.int .i64 i
theorem keyE_int:KeyE ev 3 iK:=KeyE.int ⟨_,rfl,rfl⟩
theorem mapT_ros:MapT ev 255 3 (.agg [iA 0,iA 0,iA 0,iA 0,iA 0,uA 0]):=⟨_,_,_,_,rfl,rfl,rfl,rfl,rfl⟩
def rosH(M:List (Int×Mem)):List AObj:=[.mrow (mE iK mC M),.cells [.map 0] 257]
def Mem.right(m:Mem):Bool:=decide (0<m.user∧m.user<65535∧0≤m.role∧m.role≤7∧0≤m.tier∧m.tier≤7∧0≤m.quota∧m.quota≤65535∧m.k=0∧m.area=0)
theorem rright{S:List Nat}{H:List AObj}{K:AV→List AObj→Prop}{m:Mem}(k:K (bA m.right) H):CP S 226 [.agg (mA m)] H K:=by
 refine CallS.pure ?_ (fun _=>rfl) (fun _=>rfl) k
 refine fn_ok ev_ok rfl ?_
 repeat' ((conv=>whnf);first|with_reducible apply brP_of<;>intro _|refine fn_ok ev_ok rfl ?_)
 all_goals
  refine bA_eq ?_
  simp_all [Mem.right]
 all_goals omega
theorem rnew:CP [] 131 [] [] (fun v H'=>v=.ptr 1 0∧∃G,H'=rosH [(0,⟨0,0,0,65535,0,0⟩)]++G):=by
 refine CallS.wk (K:=fun v H'=>v=.ptr 1 0∧H'=[.map [(iA 0,.agg (mA ⟨0,0,0,65535,0,0⟩),0)] 1,.cells [.map 0] 257]) ?_ (fun v H1 h=>?_)
 ·refine fn_ok ev_ok rfl ?_
  conv=>whnf
  refine OpP.madd (.inr rfl) rfl rfl rfl rfl rfl rfl rfl rfl rfl ?_
  conv=>whnf
  exact ⟨rfl,rfl⟩
 ·obtain ⟨rfl,rfl⟩:=h
  exact ⟨_,.map rfl rfl (by simp) (.same .nil),rfl,[],rfl⟩
def enrolE(M:List (Int×Mem))(m:Mem):Int:=if m.right then (if (aget m.user M).isSome then 20 else 0) else 1
def enrolM(M:List (Int×Mem))(m:Mem):List (Int×Mem):=if m.right&&(aget m.user M).isNone then aput m.user m M else M
theorem renrol{M:List (Int×Mem)}{m:Mem}:CP [] 137 [.ptr 1 0,.agg (mA m)] (rosH M) (fun v H'=>v=iA (enrolE M m)∧∃G,H'=rosH (enrolM M m)++G):=by
 refine fn_ok ev_ok rfl ?_
 repeat' ((conv=>whnf);first|with_reducible apply brP_of<;>intro _|refine WpS.drawn ev_ok rfl rfl ?_|with_reducible refine And.intro (AgP.mk ⟨_,rfl,rfl⟩) ?_|refine rright ?_|refine OpP.look2 _ mapT_ros keyE_int rfl rfl rfl rfl (fun a ha=>?_) (fun ha=>?_)|refine And.intro (AgP.look _ mapT_ros keyE_int rfl rfl rfl rfl rfl (by assumption) rfl rfl) ?_|refine OpP.mput (key:=m.user) (a:=m) mapT_ros keyE_int rfl rfl rfl rfl rfl rfl rfl rfl ?_|refine fn_ok ev_ok rfl ?_)
 all_goals refine ⟨congrArg iA ?_,_,congrArg (·::_) (congrArg (fun l=>AObj.mrow (mE iK mC l)) ?_)⟩<;>simp_all [enrolE,enrolM]
def profM(u k ar:Int)(M:List (Int×Mem)):Int×List (Int×Mem):=match aget u M with
 | none=>(21,M)
 | some m=>if u=0∨k<1∨65535<k then (1,aput u m M) else (0,aput u { m with k:=k,area:=ar } M)
theorem rprofile{M:List (Int×Mem)}{u k ar:Int}:CP [] 138 [.ptr 1 0,iA u,.agg [iA k,uA ar]] (rosH M) (fun v H'=>v=iA (profM u k ar M).1∧∃G,H'=rosH (profM u k ar M).2++G):=by
 refine fn_ok ev_ok rfl ?_
 repeat' ((conv=>whnf);first|with_reducible apply brP_of<;>intro _|refine WpS.drawn ev_ok rfl rfl ?_|with_reducible refine And.intro (AgP.mk ⟨_,rfl,rfl⟩) ?_|refine OpP.look2 _ mapT_ros keyE_int rfl rfl rfl rfl (fun a ha=>?_) (fun ha=>?_)|refine And.intro (AgP.look _ mapT_ros keyE_int rfl rfl rfl rfl rfl (by assumption) rfl rfl) ?_|refine OpP.mput (key:=u) (a:=a) mapT_ros keyE_int rfl rfl rfl rfl rfl rfl rfl rfl ?_|refine OpP.mput (key:=u) (a:={ a with k:=k,area:=ar }) mapT_ros keyE_int rfl rfl rfl rfl rfl rfl rfl rfl ?_|refine fn_ok ev_ok rfl ?_)
 all_goals (try conv=>whnf);refine ⟨congrArg iA ?_,_,congrArg (·::_) (congrArg (fun l=>AObj.mrow (mE iK mC l)) ?_)⟩<;>simp_all [profM]<;>(repeat' split)<;>simp_all<;>omega
structure Cel where
 l:Int
 x:Int
 y:Int
 deriving DecidableEq
abbrev celA(c:Cel):AV:=.agg [iA c.l,iA c.x,iA c.y]
def shrI(x n:Int):Int:=x.fdiv (2 ^ n.toNat)
def p2(n:Int):Int:=2 ^ n.toNat
def ofC(x y l:Int):Cel:=⟨l,shrI x (16 - l),shrI y (16 - l)⟩
def Cel.right(c:Cel):Bool:=decide (0≤c.l∧c.l≤16∧0≤c.x∧0≤c.y∧c.x<p2 c.l∧c.y<p2 c.l)
theorem p2_le{n:Int}(h:n≤20):p2 n≤1048576:=by
 have:n.toNat≤20:=by omega
 have h2:(2:Nat) ^ n.toNat≤2 ^ 20:=Nat.pow_le_pow_right (by omega) this
 unfold p2
 have:((2 ^ n.toNat:Nat):Int)=(2:Int) ^ n.toNat:=by simp
 omega
theorem p2_pos(n:Int):1≤p2 n:=by
 have h2:(1:Nat)≤2 ^ n.toNat:=Nat.one_le_two_pow
 unfold p2
 have:((2 ^ n.toNat:Nat):Int)=(2:Int) ^ n.toNat:=by simp
 omega
theorem min64{n:Int}(h:n≤64):min n.toNat 64=n.toNat:=Nat.min_eq_left (by omega)
section
variable{S:List Nat}{H:List AObj}{K:AV→List AObj→Prop}
theorem cshift{l:Int}(h0:0≤l)(h1:l≤16)(k:K (iA (16 - l)) H):CP S 421 [iA l] H K:=by
 refine CallS.pure ?_ (fun _=>rfl) (fun _=>rfl) k
 refine fn_ok ev_ok rfl ?_
 repeat' ((conv=>whnf);first|with_reducible apply brP_of<;>intro _|refine fn_ok ev_ok rfl ?_)
 exact congrArg iA (wrap_in (by omega) (by omega))
theorem cdown{l n:Int}(h0:0≤l)(h1:l≤16)(k:K (iA (shrI n (16 - l))) H):CP S 324 [iA l,iA n] H K:=by
 refine CallS.pure ?_ (fun _=>rfl) (fun _=>rfl) k
 refine fn_ok ev_ok rfl ?_
 repeat' ((conv=>whnf);first|with_reducible apply brP_of<;>intro _|refine cshift h0 h1 ?_|refine OpP.shr rfl rfl (by omega) ?_|refine fn_ok ev_ok rfl ?_)
 refine congrArg iA ?_
 unfold shrI
 rw[show IntKind.i64.bits=64 from rfl,min64 (by omega)]
theorem cof{x y l:Int}(h0:0≤l)(h1:l≤16)(k:K (celA (ofC x y l)) H):CP S 238 [.agg [iA x,iA y],iA l] H K:=by
 refine CallS.pure ?_ (fun _=>rfl) (fun _=>rfl) k
 refine fn_ok ev_ok rfl ?_
 repeat' ((conv=>whnf);first|with_reducible apply brP_of<;>intro _|refine cdown h0 h1 ?_|refine fn_ok ev_ok rfl ?_)
 rfl
theorem shl1{l:Int}(h1:l≤16):IntKind.i64.wrap (1 * 2 ^ min l.toNat IntKind.i64.bits)=p2 l:=by
 have h2:=p2_le (n:=l) (by omega)
 have h3:=p2_pos l
 rw[show IntKind.i64.bits=64 from rfl,min64 (by omega),Int.one_mul]
 exact wrap_in (by unfold p2 at h3;omega) (by unfold p2 at h2;omega)
theorem cright{c:Cel}(k:K (bA c.right) H):CP S 326 [celA c] H K:=by
 refine CallS.pure ?_ (fun _=>rfl) (fun _=>rfl) k
 refine fn_ok ev_ok rfl ?_
 have h1:=shl1 (l:=c.l)
 repeat' ((conv=>whnf);first|with_reducible apply brP_of<;>intro _|refine WpS.drawn ev_ok rfl rfl ?_|with_reducible refine And.intro (AgP.mk ⟨_,rfl,rfl⟩) ?_|refine OpP.shl rfl rfl (by simp_all) ?_|refine fn_ok ev_ok rfl ?_)
 all_goals
  refine bA_eq ?_
  simp_all [Cel.right]
 all_goals omega
def Cel.child(c:Cel)(i:Int):Cel:=if c.right&&decide (c.l≠16∧0≤i∧i≤3) then ⟨c.l+1,2 * c.x+i % 2,2 * c.y+i / 2⟩ else ⟨0,0,0⟩
theorem tC2{c c':Cel}{b b':Bool}(h:c=c')(h2:b=b'):AV.tuple [celA c,bA b]=.tuple [celA c',bA b']:=by rw[h,h2]
theorem Cel.bd{c:Cel}(h:c.right=true):0≤c.l∧c.l≤16∧0≤c.x∧0≤c.y∧c.x<1048576∧c.y<1048576:=by
 have h:=of_decide_eq_true h
 have:=p2_le (n:=c.l) (by omega)
 omega
theorem child_eq{c:Cel}{i:Int}(h:c.right=true)(h1:0≤i)(h2:i≤3):(⟨IntKind.i64.wrap (c.l+1),IntKind.i64.wrap (IntKind.i64.wrap (2 * c.x)+i.tmod 2),IntKind.i64.wrap (IntKind.i64.wrap (2 * c.y)+IntKind.i64.wrap (i.tdiv 2))⟩:Cel)=⟨c.l+1,2 * c.x+i % 2,2 * c.y+i / 2⟩:=by
 have:=Cel.bd h
 rw[Int.tmod_eq_emod_of_nonneg h1,Int.tdiv_eq_ediv_of_nonneg h1]
 have e1:IntKind.i64.wrap (2 * c.x)=2 * c.x:=wrap_in (by omega) (by omega)
 have e2:IntKind.i64.wrap (2 * c.y)=2 * c.y:=wrap_in (by omega) (by omega)
 have e3:IntKind.i64.wrap (i / 2)=i / 2:=wrap_in (by omega) (by omega)
 rw[e1,e2,e3,wrap_in (by omega) (by omega),wrap_in (by omega) (by omega),wrap_in (by omega) (by omega)]
theorem cchild{c:Cel}{i:Int}(k:K (.tuple [celA (c.child i),bA (c.right&&decide (c.l≠16∧0≤i∧i≤3))]) H):CP S 241 [celA c,iA i] H K:=by
 refine CallS.pure ?_ (fun _=>rfl) (fun _=>rfl) k
 refine fn_ok ev_ok rfl ?_
 repeat' ((conv=>whnf);first|with_reducible apply brP_of<;>intro _|refine cright ?_|refine OpP.rem rfl rfl rfl ?_|refine OpP.quo rfl rfl rfl ?_|refine fn_ok ev_ok rfl ?_)
 all_goals
  (try conv=>whnf)
  try simp only[decide_eq_true_eq,decide_eq_false_iff_not,beq_iff_eq,beq_eq_false_iff_ne] at *
 all_goals first
  | (refine tC2 (c:=⟨0,0,0⟩) (b:=false) ?_ ?_<;>simp_all [Cel.child]<;>omega)
  | (refine tC2 (b:=true) ((child_eq (by assumption) (by omega) (by omega)).trans ?_) ?_
     ·simp only[Cel.child]
      rw[if_pos (by simp_all<;>omega)]
     ·simp_all<;>omega)
def Cel.above(c:Cel)(l:Int):Cel:=if c.right&&decide (0≤l∧l≤16∧l≤c.l) then ⟨l,shrI c.x (c.l - l),shrI c.y (c.l - l)⟩ else ⟨0,0,0⟩
theorem shr_wrap{x m:Int}(h0:0≤m)(h:m≤64):x.fdiv (2 ^ min (IntKind.i64.wrap m).toNat IntKind.i64.bits)=shrI x m:=by
 rw[wrap_in (by omega) (by omega),show IntKind.i64.bits=64 from rfl,min64 (by omega)]
 rfl
theorem cabove{c:Cel}{l:Int}(k:K (.tuple [celA (c.above l),bA (c.right&&decide (0≤l∧l≤16∧l≤c.l))]) H):CP S 325 [celA c,iA l] H K:=by
 refine CallS.pure ?_ (fun _=>rfl) (fun _=>rfl) k
 refine fn_ok ev_ok rfl ?_
 have hb:=Cel.bd (c:=c)
 repeat' ((conv=>whnf);first|with_reducible apply brP_of<;>intro _|refine WpS.drawn ev_ok rfl rfl ?_|with_reducible refine And.intro (AgP.mk ⟨_,rfl,rfl⟩) ?_|refine cright ?_|refine OpP.shr rfl rfl (by simp_all;rw[wrap_in]<;>omega) ?_|refine fn_ok ev_ok rfl ?_)
 all_goals
  (try conv=>whnf)
  try simp only[decide_eq_true_eq,decide_eq_false_iff_not,beq_iff_eq,beq_eq_false_iff_ne] at *
 all_goals first
  | (refine tC2 (c:=⟨0,0,0⟩) (b:=false) ?_ ?_<;>simp_all [Cel.above]<;>omega)
  | (refine tC2 (c:=⟨l,shrI c.x (c.l - l),shrI c.y (c.l - l)⟩) (b:=true) ?_ ?_
     ·simp only[Cel.above]
      rw[if_pos (by simp_all<;>omega)]
     ·simp_all<;>omega)
  | (have hb:=Cel.bd (c:=c) (by assumption)
     rw[shr_wrap (by omega) (by omega),shr_wrap (by omega) (by omega)]
     refine tC2 (c:=⟨l,shrI c.x (c.l - l),shrI c.y (c.l - l)⟩) (b:=true) ?_ ?_
     ·simp only[Cel.above]
      rw[if_pos (by simp_all<;>omega)]
     ·simp_all<;>omega)
def fits(x y:Int):Bool:=decide (0≤x∧x≤65535∧0≤y∧y≤65535)
theorem cOf{x y l:Int}(k:K (.tuple [celA (if decide (0≤l∧l≤16)&&fits x y then ofC x y l else ⟨0,0,0⟩),bA (decide (0≤l∧l≤16)&&fits x y)]) H):CP S 321 [.agg [iA x,iA y],iA l] H K:=by
 refine CallS.pure ?_ (fun _=>rfl) (fun _=>rfl) k
 refine fn_ok ev_ok rfl ?_
 repeat' ((conv=>whnf);first|with_reducible apply brP_of<;>intro _|refine cof (by simp_all) (by simp_all) ?_|refine fn_ok ev_ok rfl ?_)
 all_goals
  (try conv=>whnf)
  try simp only[decide_eq_true_eq,decide_eq_false_iff_not,beq_iff_eq,beq_eq_false_iff_ne] at *
 all_goals first
  | (refine tC2 (c:=⟨0,0,0⟩) (b:=false) ?_ ?_<;>simp_all [fits]<;>omega)
  | (refine tC2 (b:=true) ?_ ?_<;>simp_all [fits])
def homeL(x0 y0 x1 y1:Int):Nat→Nat→Cel→Cel
 | 0,_,h=>h
 | f+1,l,h=>if ofC x1 y1 l=ofC x0 y0 l then homeL x0 y0 x1 y1 f (l+1) (ofC x0 y0 l) else h
def homeC(x0 y0 x1 y1:Int):Cel:=homeL x0 y0 x1 y1 17 0 ⟨0,0,0⟩
theorem cel_beq{a b:Cel}:(a.l==b.l&&(a.x==b.x&&(a.y==b.y&&true)))=decide (a=b):=by
 cases a;cases b
 rw[Bool.eq_iff_iff]
 simp
theorem chome{x0 y0 x1 y1:Int}(k:K (.tuple [celA (if rcOk x0 y0 x1 y1 then homeC x0 y0 x1 y1 else ⟨0,0,0⟩),bA (rcOk x0 y0 x1 y1)]) H):CP S 143 [.agg [iA x0,iA y0,iA x1,iA y1]] H K:=by
 refine CallS.pure ?_ (fun _=>rfl) (fun _=>rfl) k
 refine fn_ok ev_ok rfl ?_
 repeat' ((conv=>whnf);first|with_reducible apply brP_of<;>intro _|refine WpS.drawn ev_ok rfl rfl ?_|with_reducible refine And.intro (AgP.mk ⟨_,rfl,rfl⟩) ?_|refine sright ?_  | refine fn_ok ev_ok rfl ?_)
 all_goals conv=>whnf
 ·rename_i hr
  rw[hr]
  refine loopP ev_ok rfl (fun s:Nat×Cel=>[(1,.ptr 0 0),(2,.ptr 1 0),(3,bA false),(4,.ptr 2 0),(11,iA (s.1:Nat))]) (fun s=>[.cells [iA x0,iA y0,iA x1,iA y1] 76,.cells [iA 0,iA 0,iA 0] 232,.cells [iA s.2.l,iA s.2.x,iA s.2.y] 232])
   (fun s=>s.1≤17∧homeL x0 y0 x1 y1 (17 - s.1) s.1 s.2=homeC x0 y0 x1 y1) (fun s=>17 - s.1) (0,⟨0,0,0⟩) ⟨by omega,rfl⟩ [0,1,2] ?_ ?_
  ·exact ⟨rfl,⟨⟨rfl,rfl⟩,⟨rfl,rfl⟩,⟨rfl,rfl⟩,⟨rfl,rfl⟩,⟨rfl,rfl⟩,tU⟩,⟨⟨_,rfl,rfl⟩,⟨_,rfl,rfl⟩,⟨_,rfl,rfl⟩,tU⟩⟩
  ·rintro ⟨l,h⟩ ⟨hl,hh⟩
   simp only[] at hl hh
   by_cases hk:l<17
   ·conv=>whnf
    refine brP_of (fun _=>?_) (fun h0=>absurd h0 (by simp;omega))
    repeat' ((conv=>whnf);first|with_reducible apply brP_of<;>intro _|refine WpS.drawn ev_ok rfl rfl ?_|with_reducible refine And.intro (AgP.mk ⟨_,rfl,rfl⟩) ?_|refine cof (l:=l) (by omega) (by omega) ?_|refine fn_ok ev_ok rfl ?_)
    all_goals conv=>whnf
    all_goals
     rename_i hc
     rw[cel_beq] at hc
     rw[show 17 - l=(16 - l)+1 by omega] at hh
     simp only[homeL] at hh
    ·have hc:¬ofC x1 y1 l=ofC x0 y0 l:=by simpa using hc
     rw[if_neg hc] at hh
     rw[←hh]
     rfl
    ·have hc:ofC x1 y1 l=ofC x0 y0 l:=by simpa using hc
     rw[if_pos hc] at hh
     exact ⟨(l+1,ofC x0 y0 l),[0,1,2],⟨⟨by show l+1≤17;omega,by show homeL x0 y0 x1 y1 (17 - (l+1)) (l+1) _=_;rw[←hh,show 17 - (l+1)=16 - l by omega]⟩,by show 17 - (l+1)<17 - l;omega⟩,rfl,⟨⟨rfl,rfl⟩,⟨rfl,rfl⟩,⟨rfl,rfl⟩,⟨rfl,rfl⟩,⟨rfl,subInt rfl (wrap_in (by omega) (by omega))⟩,tU⟩,⟨⟨_,rfl,rfl⟩,⟨_,rfl,rfl⟩,⟨_,rfl,rfl⟩,tU⟩⟩
   ·conv=>whnf
    refine brP_of (fun h0=>absurd h0 (by simp;omega)) (fun _=>?_)
    repeat' ((conv=>whnf);first|with_reducible apply brP_of<;>intro _|refine WpS.drawn ev_ok rfl rfl ?_|with_reducible refine And.intro (AgP.mk ⟨_,rfl,rfl⟩) ?_|refine fn_ok ev_ok rfl ?_)
    conv=>whnf
    obtain rfl:l=17:=by omega
    rw[←hh]
    rfl
 ·rename_i hr
  rw[hr]
  rfl
end
end Go.Proofs.YtmbdghclhpboaaaGreat
