/- Part of the proof: TokP Secret SEqual Tok Ros Cell. Conditions: as each states. -/
import Derived.Test.YtmbdghclhpboaaaGreatPw17
import Derived.StillTailTactics
import Derived.Test.YtmbdghclhpboaaaGreatPw19
set_option linter.all false
set_option maxRecDepth 100000
set_option maxHeartbeats 8000000
namespace Go.Proofs.YtmbdghclhpboaaaGreat
structure yZ where
 ops:Int
 bO:Int
 x0:Int
 y0:Int
 x1:Int
 y1:Int
 void:Bool
 mY:Int
deriving DecidableEq
def yZ.zero:yZ:=⟨0,0,0,0,0,0,false,0⟩
structure dN where
 bC:Nat
 parent:Nat
 g:yZ
deriving DecidableEq
def oo(x0 y0 x1 y1:Int):Bool:=decide (0<=x0/\x0<=65535/\0<=y0/\y0<=65535/\0<=x1/\x1<=65535/\0<=y1/\y1<=65535/\x0<=x1/\y0<=y1)
def yZ.right(g:yZ):Bool:=decide (0<=g.ops/\g.ops<=31/\0<=g.bO/\g.bO<=16/\0<=g.mY/\g.mY<=4294967295)&&(if g.void then decide (g.x0=0/\g.y0=0/\g.x1=0/\g.y1=0) else oo g.x0 g.y0 g.x1 g.y1)
def mc(l:List dN)(s:Nat):Option Nat:=if s=0 then none else l.findIdx? (fun k=>decide (k.bC=s))
def dE:List dN->List dN->Option (List dN)
 | [],acc=>some acc
 | k::r,acc=>if !k.g.right || decide (k.bC=0) || (mc acc k.bC).isSome || (decide (k.parent≠0)&&(mc acc k.parent).isNone) then none else dE r (acc++[k])
def cg(l:List dN):Option (List dN):=if 8<l.length then none else dE l []
end Go.Proofs.YtmbdghclhpboaaaGreat
namespace Go.Proofs.YtmbdghclhpboaaaGreat
open Go.RowKit
theorem wrap_u8(n:Int):IntKind.u8.wrap n=n % 256:=by simp[IntKind.wrap,IntKind.bits,IntKind.signed]
theorem Ee(a b:Nat)(ha:a<256)(hb:b<256):bits .xor .u8 (a:Int) (b:Int)=((a ^^^ b:Nat):Int):=by
 have hx:a ^^^ b<2 ^ 8:=Nat.xor_lt_two_pow (by omega) (by omega);have h1:(BitVec.ofInt 8 (a:Int)).toNat=a:=by
  rw[BitVec.ofInt_natCast,BitVec.toNat_ofNat];exact Nat.mod_eq_of_lt (by omega)
 have h2:(BitVec.ofInt 8 (b:Int)).toNat=b:=by
  rw[BitVec.ofInt_natCast,BitVec.toNat_ofNat];exact Nat.mod_eq_of_lt (by omega)
 show IntKind.u8.wrap ((BitVec.ofInt 8 (a:Int) ^^^ BitVec.ofInt 8 (b:Int)).toNat:Int)=_
 rw[BitVec.toNat_xor,h1,h2,wrap_u8];omega
theorem FU(a b:Nat)(ha:a<256)(hb:b<256):bits .or .u8 (a:Int) (b:Int)=((a ||| b:Nat):Int):=by
 have hx:a ||| b<2 ^ 8:=Nat.or_lt_two_pow (by omega) (by omega);have h1:(BitVec.ofInt 8 (a:Int)).toNat=a:=by
  rw[BitVec.ofInt_natCast,BitVec.toNat_ofNat];exact Nat.mod_eq_of_lt (by omega)
 have h2:(BitVec.ofInt 8 (b:Int)).toNat=b:=by
  rw[BitVec.ofInt_natCast,BitVec.toNat_ofNat];exact Nat.mod_eq_of_lt (by omega)
 show IntKind.u8.wrap ((BitVec.ofInt 8 (a:Int) ||| BitVec.ofInt 8 (b:Int)).toNat:Int)=_
 rw[BitVec.toNat_or,h1,h2,wrap_u8];omega
def Le(w:World)(c:Nat)(va vb:Value)(p n:Nat):Prop:=mu w c 525 #[va,vb,.int .u8 (p:Int),.int .i64 (n:Int)]
theorem MJ(w:World)(c:Nat)(va vb:Value)(p n:Nat)(xs ys:List UInt8)(i:Nat)(B:Nat)(h:Le w c va vb p n)
  (ha:Sl cj w B va xs) (hb:Sl cj w B vb ys) (hx:xs.length=8) (hy:ys.length=8) (hi:i<8) (hp:p<256) (Xi:n<1000) :
  Calls Tryz.prog 452 #[.pointer (some ⟨c,0,none⟩),.int .i64 i] w fun e w'=>e=.returned (.tuple #[])/\Le w' c va vb (p ||| (xs[i].toNat ^^^ ys[i].toNat)) (n+1)/\jL [c] w w':=by
 obtain ⟨A,cap,rfl,NN,EB,GJ⟩:=ha;obtain ⟨A',Sy,rfl,iN,lK,ll⟩:=hb;obtain ⟨ab,ao,rfl,ZX,WL⟩:=GJ (by omega);obtain ⟨bb,bo,rfl,ZZ,WN⟩:=ll (by omega);have e1:=(WL.elem gO i (by omega)).by
 have e2:=(WN.elem gO i (by omega)).by
 rw[Nat.mul_one] at e1 e2;have hq:=Ee xs[i].toNat ys[i].toNat (UInt8.toNat_lt _) (UInt8.toNat_lt _);have Zt:xs[i].toNat ^^^ ys[i].toNat<2 ^ 8:=Nat.xor_lt_two_pow (UInt8.toNat_lt _) (UInt8.toNat_lt _);have hr:=FU p (xs[i].toNat ^^^ ys[i].toNat) hp (by omega);unfold Le at h ⊢;rw[hx,hy] at h;generalize xs[i].toNat ^^^ ys[i].toNat=z at hq hr Zt ⊢;generalize xs[i].toNat=x at e1 hq;generalize ys[i].toNat=y at e2 hq;rw[hx,hy];have c0:w.cell? ⟨c,0,none⟩=some (.slice (some ⟨ab,ao,none⟩) 8 cap):=h.is 0 rfl;have c1:w.cell? ⟨c,1,none⟩=some (.slice (some ⟨bb,bo,none⟩) 8 Sy):=h.is 1 rfl;have c2:w.cell? ⟨c,2,none⟩=some (.int .u8 (p:Int)):=h.is 2 rfl;have c3:w.cell? ⟨c,3,none⟩=some (.int .i64 (n:Int)):=h.is 3 rfl;have f2:=h.frozen 2;have f3:=h.frozen 3;have HI:(i:Int)<8:=by omega
 have HH:=Lib.hid h;clear h WL WN GJ ll NN EB iN lK;go_enter Tryz.func452,Tryz.ntmps452;go_wp2;go_still_tail 22,(by kernel_rfl)
 ·go_wp2;refine bodyPost_end (results_none rfl _ _ _) rfl ?_;refine ⟨rfl,?_,?_⟩
  ·have h1:=(HH.out.put 2 (.int .u8 ((p ||| z:Nat):Int))).put 3 (.int .i64 ((n:Int)+1));simp only[List.setIfInBounds_toArray,List.set_cons_succ,List.set_cons_zero] at h1;exact h1
  ·have m1:=(jL.setCell w ⟨c,2,none⟩ (.int .u8 ((p ||| z:Nat):Int))).trans (jL.setCell _ ⟨c,3,none⟩ (.int .i64 ((n:Int)+1))) (by simp);exact ⟨m1.os,m1.tape,m1.output,m1.size,m1.block⟩
theorem CH(a b:Nat):a ^^^ b=0↔a=b:=by
 constructor
 ·intro h;have:=congrArg (· ^^^ b) h;simpa [Nat.xor_assoc,Nat.xor_self] using this
 ·rintro rfl;exact Nat.xor_self _
def y7(xs ys:List UInt8):Nat->Nat
 | 0=>0
 | k+1=>y7 xs ys k ||| ((xs.getD k 0).toNat ^^^ (ys.getD k 0).toNat)
theorem Ky(xs ys:List UInt8):∀k,y7 xs ys k<256
 | 0=>Nat.succ_pos _
 | k+1=>by
   have h1:=Ky xs ys k;have h2:(xs.getD k 0).toNat ^^^ (ys.getD k 0).toNat<2 ^ 8:=Nat.xor_lt_two_pow (UInt8.toNat_lt _) (UInt8.toNat_lt _);exact Nat.or_lt_two_pow (n:=8) h1 h2
theorem C6(xs ys:List UInt8):∀k,y7 xs ys k=0↔∀i,i<k->xs.getD i 0=ys.getD i 0
 | 0=>by simp[y7]
 | k+1=>by
   rw[y7,Nat.or_eq_zero_iff,C6 xs ys k,CH];constructor
   ·rintro ⟨h1,h2⟩ i hi;rcases Nat.lt_succ_iff_lt_or_eq.1 hi with h|rfl
    ·exact h1 i h
    ·exact UInt8.toNat_inj.1 h2
   ·intro h;exact ⟨fun i hi=>h i (by omega),by rw[h k (by omega)]⟩
theorem PJ(w:World)(c:Nat)(va vb:Value)(xs ys:List UInt8)(B:Nat)(h:Le w c va vb 0 0)
  (ha:Sl cj w B va xs) (hb:Sl cj w B vb ys) (hx:xs.length=8) (hy:ys.length=8) (hB:B<=c) (LB:B<=w.heap.size) :
  Calls Tryz.prog 451 #[.pointer (some ⟨c,0,none⟩),.func (.func 452) #[] #[]] w fun e w'=>e=.returned (.tuple #[])/\Le w' c va vb (y7 xs ys 8) 8/\jL [c] w w':=by
 have HH:=Lib.hid h;have HA:=Lib.hid ha;have Yh:=Lib.hid hb;clear h ha hb;go_enter Tryz.func451,Tryz.ntmps451;go_wp2;go_loopw [4,5] (fun _ iv wr=>∃i:Nat,i<=8/\iv=.int .i64 (i:Int)/\Le wr c va vb (y7 xs ys i) i/\jL [c] w wr) (fun _ iv _=>(8 - intOf iv).toNat);case atStart=>exact ⟨0,by omega,rfl,HH.out,jL.refl _ _⟩
 case round=>
  obtain ⟨i,hi,rfl,hc,hm⟩:=hrel;have Ha:=hm.size;have HC:=Lib.hid hc;have HM:=Lib.hid hm;clear hc hm;by_cases ah:i<8
  ·have hA:=HA.out.lP (w':=wr) fun b hb=>HM.out.block b (by omega) (by simp;omega);have hV:=Yh.out.lP (w':=wr) fun b hb=>HM.out.block b (by omega) (by simp;omega);have HS:=Lib.hid (MJ wr c va vb (y7 xs ys i) i xs ys i B HC.out hA hV hx hy ah (Ky _ _ _) (by omega));clear hA hV;have Z5:(i:Int)<8:=by omega
   go_wp2_with fail;refine HS.out.mono ?_;rintro e w2 ⟨rfl,LI,Cq⟩;have Yi:=Lib.hid LI;have Yj:=Lib.hid (HM.out.trans Cq (by simp));clear LI Cq;go_wp2;go_roundw;case rel=>
    refine ⟨i+1,by omega,by go_num,?_,Yj.out⟩;have e1:xs.getD i 0=xs[i]:=by simp[List.getD,hx,ah]
    have e2:ys.getD i 0=ys[i]:=by simp[List.getD,hy,ah]
    rw[y7,e1,e2];exact Yi.out
   case measure=>simp[intOf];omega
  ·obtain rfl:i=8:=by omega
   go_wp2;refine bodyPost_end (results_none rfl _ _ _) rfl ?_;exact ⟨rfl,HC.out,HM.out⟩
theorem Kd{a b:Nat}(ha:a<18446744073709551616)(hb:b<18446744073709551616):y7 (bZ 8 a) (bZ 8 b) 8=0↔a=b:=by
 rw[C6];constructor
 ·intro h;have e:bZ 8 a=bZ 8 b:=by
   apply List.ext_getElem (by rw[bF,bF]);intro i h1 h2;have h3:=h i (by rw[bF] at h1;exact h1);simpa [List.getD,h1,h2] using h3
  have:=congrArg nM e;rwa [rH 8 a (by omega),rH 8 b (by omega)] at this
 ·rintro rfl i _;rfl
theorem JY(a b:Nat)(w:World)(ha:a<18446744073709551616)(hb:b<18446744073709551616) :
  Calls Tryz.prog 364 #[.int .u64 a,.int .u64 b] w fun e w'=>e=.returned (.tuple #[.bool (decide (a=b)),.int .i64 8])/\Below w.heap.size w w':=by
 have Yk:=Lib.hid (fun w=>nu a 8 w (by omega) (by omega) ha (by omega));have Yl:=Lib.hid (fun w=>nu b 8 w (by omega) (by omega) hb (by omega));have HD:=Lib.hid (Kd ha hb);clear ha hb;go_enter Tryz.func364,Tryz.ntmps364;go_wp2_with fail;refine (Yk.out _).mono ?_;rintro e w1 ⟨va,rfl,Q5,iN⟩;obtain ⟨A,ca,rfl⟩:=Q5.form;rw[bF] at Q5 ⊢;have Ym:=Lib.hid Q5.sl;have VW:=Lib.hid iN;clear Q5 iN;go_wp2_with fail;refine (Yl.out _).mono ?_;rintro e w2 ⟨vb,rfl,Q6,lK⟩;obtain ⟨A',cb,rfl⟩:=Q6.form;rw[bF] at Q6 ⊢;have Yn:=Lib.hid Q6.sl;have VY:=Lib.hid (Ym.out.below lK);have Qe:=Lib.hid (VW.out.trans (lK.mono VW.out.size));have VX:=Lib.hid lK.size;clear Q6 lK;have hn:=mu.new w2 525 #[.slice A 8 ca,.slice A' 8 cb,.int .u8 0,.int .i64 0];have Yf:=Lib.hid (PJ (w2.alloc (.cells #[.slice A 8 ca,.slice A' 8 cb,.int .u8 0,.int .i64 0] 525)) w2.heap.size (.slice A 8 ca) (.slice A' 8 cb) (bZ 8 a) (bZ 8 b) w2.heap.size hn ((VY.out.below ((Below.refl _ w2).alloc VX.out _)).more VX.out) (Yn.out.below ((Below.refl _ w2).alloc (Nat.le_refl _) _)) (bF _ _) (bF _ _) (Nat.le_refl _) (by simp));clear hn;go_wp2_with fail;refine Yf.out.mono ?_;rintro e w3 ⟨rfl,NQ,Xd⟩;have c2:w3.cell? ⟨w2.heap.size,2,none⟩=some (.int .u8 ((y7 (bZ 8 a) (bZ 8 b) 8:Nat):Int)):=mu.is NQ 2 rfl;have c3:w3.cell? ⟨w2.heap.size,3,none⟩=some (.int .i64 ((8:Nat):Int)):=mu.is NQ 3 rfl;have Yg:=Lib.hid ((Qe.out.alloc Qe.out.size (.cells #[.slice A 8 ca,.slice A' 8 cb,.int .u8 0,.int .i64 0] 525)).trans (Xd.below (B:=w.heap.size) (by have:=Qe.out.size;simp;omega) (by have:=Qe.out.size;simpa using this)));clear NQ Xd;generalize y7 (bZ 8 a) (bZ 8 b) 8=d at c2 HD;go_wp2_with fail;go_quiet (fail);go_wp2_with fail;go_ret2;have hd:((d:Int)==0)=decide (a=b):=by
  by_cases h:a=b
  ·have:=HD.out.2 h;subst this;simp[h]
  ·have h1:d≠0:=fun e=>h (HD.out.1 e);rw[decide_eq_false h];simpa using h1
 refine ⟨?_,below_drewN Yg.out _⟩;rw[<-hd];rfl
end Go.Proofs.YtmbdghclhpboaaaGreat
namespace Go.Proofs.YtmbdghclhpboaaaGreat
open Ev
abbrev iA(n:Int):AV:=.lit (.int .i64 n)
abbrev uA(n:Int):AV:=.lit (.int .u64 n)
abbrev bA(b:Bool):AV:=.lit (.bool b)
abbrev CP(S:List Nat)(f:Nat)(args:List AV)(H:List af)(K:AV->List af->Prop):Prop:=ag Tryz.prog S f args H K
theorem bh{a b:Bool}(h:a=b):bA a=bA b:=by rw[h]
section
variable{S:List Nat}{H:List af}{K:AV->List af->Prop}
theorem zI{x0 y0 x1 y1:Int}(k:K (bA (oo x0 y0 x1 y1)) H):CP S 215 [.agg [iA x0,iA y0,iA x1,iA y1]] H K:=by
 refine ag.pure ?_ (fun _=>rfl) (fun _=>rfl) k;refine ae U rfl ?_;repeat' ((conv=>whnf);first|with_reducible apply aa<;>intro _|refine ae U rfl ?_)
 all_goals
  refine bh ?_
  simp_all [oo]
 all_goals omega
theorem Ir{g:yZ}(k:K (bA g.right) H):CP S 225 [.agg [iA g.ops,iA g.bO,iA g.x0,iA g.y0,iA g.x1,iA g.y1,bA g.void,iA g.mY]] H K:=by
 refine ag.pure ?_ (fun _=>rfl) (fun _=>rfl) k;refine ae U rfl ?_;repeat' ((conv=>whnf);first|with_reducible apply aa<;>intro _|refine zI ?_)
 all_goals
  refine bh ?_
  simp_all [yZ.right]
 all_goals omega
theorem aw{t:ax}{i:Nat}{n m:Int}{g:Nat->Nat}(h:t.get i=some (iA m))(e:m=n):t.get i=some ((iA n).cG g):=by rw[h,e];rfl
def uC(n:Nat):Value:=.int .u64 n
def o4(s:Nat)(l:List Nat):Int:=match (if s=0 then none else l.findIdx? (fun x=>decide (x=s))) with
 | some i=>i
 | none=>-1
theorem Gs(s x:Nat)(l:List Nat):o4 s (l++[x])=if x=s/\o4 s l<0/\s≠0 then (l.length:Int) else o4 s l:=by
 unfold o4;by_cases h0:s=0
 ·simp[h0]
 ·simp only[h0,if_false,List.findIdx?_append];cases h:l.findIdx? (fun x=>decide (x=s)) with
  | some i=>simp;omega
  | none=>
    by_cases hx:x=s<;>simp[hx,List.findIdx?_cons,h0]
theorem bf{α:Type}{l:List α}{k:Nat}(h:k<l.length):l.take (k+1)=l.take k++[l[k]]:=List.take_succ_eq_append_getElem h
theorem aj{n:Int}(h1:-9223372036854775808<=n)(h2:n<=9223372036854775807):IntKind.i64.wrap n=n:=IntWalk.i64_in n ⟨h1,h2⟩
theorem ck{a b:Nat}{X:Prop}(k:a<b)(h:decide ((a:Int)<(b:Int))=false):X:=by
 rw[decide_eq_false_iff_not] at h;exact absurd (Int.ofNat_lt.2 k) h
theorem cI{a b:Nat}{X:Prop}(k:¬a<b)(h:decide ((a:Int)<(b:Int))=true):X:=by
 rw[decide_eq_true_iff] at h;exact absurd (Int.ofNat_lt.1 h) k
theorem R5{l:List Nat}{s:Nat}{c:o0}(hl:l.length<=1000)(hb:∀x∈l,x<18446744073709551616)(hs:s<18446744073709551616){K:AV->List af->Prop}
  (kK:K (.tuple [iA (o4 s l),iA (8 * l.length)]) [.row (l.map uC) 47]):CP [] 275 [.slice 0 0 l.length c,uA s] [.row (l.map uC) 47] K:=by
 refine ae U rfl ?_;conv=>whnf
 refine aW U rfl (fun k=>[(1,uA s),(12,.slice 0 0 l.length c),(13,iA l.length),(14,iA (k:Nat)),(6,iA (o4 s (l.take k))),(7,iA (8 * k))]) (fun _=>[.row (l.map uC) 47]) (·<=l.length) (fun k=>l.length - k) 0 (Nat.zero_le _) [0] ?_ ?_
 ·exact ⟨rfl,⟨rr,rr,rr,rr,⟨rfl,aw rfl (by simp[o4])⟩,⟨rfl,rfl⟩,tU⟩,⟨⟨_,rfl,rfl⟩,tU⟩⟩
 ·intro k gT;conv=>whnf
  by_cases hk:k<l.length
  ·refine aa (fun _=>?_) (ck hk);conv=>whnf
   refine aI.of rfl hk ?_;conv=>whnf
   refine df.val hk ?_;conv=>whnf
   refine ag.Dp U rfl rfl (JY l[k] s · (hb _ (List.getElem_mem hk)) hs) ?_;have UX:=Gs s l[k] (l.take k);rw[<-bf hk,List.length_take,Nat.min_eq_left (Nat.le_of_lt hk)] at UX;repeat' ((conv=>whnf);with_reducible apply aa<;>intro _)
   all_goals
    refine ⟨k+1,[0],⟨hk,by omega⟩,rfl,⟨rr,rr,rr,⟨rfl,aw rfl (aj (by omega) (by omega))⟩,⟨rfl,aw rfl ?_⟩,⟨rfl,aw rfl ?_⟩,tU⟩,⟨⟨_,rfl,rfl⟩,tU⟩⟩
   all_goals first
    | exact aj (by omega) (by omega)
    | (simp_all;done)
    | (rw[UX];simp_all;done)
    | (rw[UX,if_neg];simp_all;try omega)
  ·obtain rfl:k=l.length:=by omega
   refine aa (cI hk) (fun _=>?_);rw[List.take_length];conv=>whnf
   exact kK
end
def zn(o size:Nat):Nat->AV
 | 0=>.lit (.slice none 0 0)
 | k+1=>.slice o 0 (k+1) (.grown size)
def zp(xs:List Value)(e:TypeId):Nat->List af
 | 0=>[]
 | _+1=>[.row xs e]
theorem FP:jE ev 372 47 1:=⟨⟨_,rfl,rfl⟩,_,_,rfl,rfl,rfl,rfl,by decide⟩
def tC(k:dN):List Value:=[.int .u64 k.bC,.int .u64 k.parent,.int .i64 k.g.ops,.int .i64 k.g.bO,.int .i64 k.g.x0,.int .i64 k.g.y0,.int .i64 k.g.x1,.int .i64 k.g.y1,.bool k.g.void,.int .i64 k.g.mY]
theorem zJ(k:dN):(tC k).length=10:=rfl
theorem XY{S:List Nat}{k:dN}{H:List af}{K:AV->List af->Prop}(h:K (uA k.bC) H):CP S 262 [.agg ((tC k).map .lit)] H K:=by
 refine ag.pure ?_ (fun _=>rfl) (fun _=>rfl) h;refine ae U rfl ?_;conv=>whnf
 repeat' ((conv=>whnf);with_reducible apply aa<;>intro _)
 all_goals rfl
theorem PO{l:List dN}{c:o0}(hl:l.length<=1000){K:AV->List af->Prop}(hK:∀n,n=l.length->K (zn 2 1 n) ([.cells [.slice 1 0 l.length c] 296,.row (l.flatMap tC) 293]++zp (l.map fun k=>uC k.bC) 47 n)) :
  CP [] 261 [.ptr 0 0,.lit (.func (.func 262) #[] #[])] [.cells [.slice 1 0 l.length c] 296,.row (l.flatMap tC) 293] K:=by
 refine ae U rfl ?_;conv=>whnf
 refine aW U rfl (fun k=>[(1,.lit (.func (.func 262) #[] #[])),(11,.slice 1 0 l.length c),(12,iA l.length),(13,iA (k:Nat)),(5,zn 2 1 k)]) (fun k=>[.cells [.slice 1 0 l.length c] 296,.row (l.flatMap tC) 293]++zp ((l.take k).map fun k=>uC k.bC) 47 k) (·<=l.length) (fun k=>l.length - k) 0 (Nat.zero_le _) [0,1] ?_ ?_
 ·exact ⟨rfl,⟨rr,rr,rr,rr,rr,tU⟩,⟨⟨_,rfl,rfl⟩,⟨_,rfl,rfl⟩,tU⟩⟩
 ·intro k gT;by_cases hk:k<l.length
  ·have hs:=bf hk;rcases k with _|k;all_goals
    conv=>whnf
    refine aa (fun _=>?_) (ck hk)
    conv=>whnf
    refine aI.of rfl hk ?_
    conv=>whnf
    refine df.elem zJ hk ?_
    conv=>whnf
    refine XY ?_
    conv=>whnf
    first
     | refine dP.nil FP rfl rfl rfl rfl rfl ?_
     | refine dP.own FP rfl rfl rfl rfl rfl rfl (by simp;omega) (by omega) ?_
    conv=>whnf
   ·exact ⟨1,[0,1,4],⟨hk,by omega⟩,rfl,⟨rr,rr,rr,⟨rfl,aw rfl rfl⟩,⟨rfl,rfl⟩,tU⟩,⟨⟨_,rfl,rfl⟩,⟨_,rfl,rfl⟩,⟨_,rfl,by rw[hs];rfl⟩,tU⟩⟩
   ·exact ⟨k+2,[0,1,5],⟨hk,by omega⟩,rfl,⟨rr,rr,rr,⟨rfl,aw rfl (aj (by omega) (by omega))⟩,⟨rfl,rfl⟩,tU⟩,⟨⟨_,rfl,rfl⟩,⟨_,rfl,rfl⟩,⟨_,rfl,by rw[hs,List.map_append];rfl⟩,tU⟩⟩
  ·have eZ:k=l.length:=by omega
   have ht:l.take k=l:=by rw[eZ,List.take_length]
   rcases k with _|k;all_goals
    conv=>whnf
    refine aa (cI hk) (fun _=>?_)
    conv=>whnf
    rw[ht]
    exact hK _ eZ
structure Mem where
 user:Int
 role:Int
 jq:Int
 fH:Int
 k:Int
 cf:Int
def mC(m:Mem):Value:=.agg #[.int .i64 m.user,.int .i64 m.role,.int .i64 m.jq,.int .i64 m.fH,.int .i64 m.k,.int .u64 m.cf]
def mA(m:Mem):List AV:=[iA m.user,iA m.role,iA m.jq,iA m.fH,iA m.k,uA m.cf]
abbrev iK(i:Int):Value:=.int .i64 i
theorem dC:oI ev 3 iK:=oI.int ⟨_,rfl,rfl⟩
theorem l5:pj ev 255 3 (.agg [iA 0,iA 0,iA 0,iA 0,iA 0,uA 0]):=⟨_,_,_,_,rfl,rfl,rfl,rfl,rfl⟩
def sG(M:List (Int×Mem)):List af:=[.br (mE iK mC M),.cells [.map 0] 257]
def Mem.right(m:Mem):Bool:=decide (0<m.user/\m.user<65535/\0<=m.role/\m.role<=7/\0<=m.jq/\m.jq<=7/\0<=m.fH/\m.fH<=65535/\m.k=0/\m.cf=0)
theorem K1{S:List Nat}{H:List af}{K:AV->List af->Prop}{m:Mem}(k:K (bA m.right) H):CP S 226 [.agg (mA m)] H K:=by
 refine ag.pure ?_ (fun _=>rfl) (fun _=>rfl) k;refine ae U rfl ?_;repeat' ((conv=>whnf);first|with_reducible apply aa<;>intro _|refine ae U rfl ?_)
 all_goals
  refine bh ?_
  simp_all [Mem.right]
 all_goals omega
theorem XV:CP [] 131 [] [] (fun v H'=>v=.ptr 1 0/\∃G,H'=sG [(0,⟨0,0,0,65535,0,0⟩)]++G):=by
 refine ag.wk (K:=fun v H'=>v=.ptr 1 0/\H'=[.map [(iA 0,.agg (mA ⟨0,0,0,65535,0,0⟩),0)] 1,.cells [.map 0] 257]) ?_ (fun v H1 h=>?_)
 ·refine ae U rfl ?_;conv=>whnf
  refine ai.OB (.inr rfl) rfl rfl rfl rfl rfl rfl rfl rfl rfl ?_;conv=>whnf
  exact ⟨rfl,rfl⟩
 ·obtain ⟨rfl,rfl⟩:=h;exact ⟨_,.map rfl rfl (by simp) (.same .nil),rfl,[],rfl⟩
def Er(M:List (Int×Mem))(m:Mem):Int:=if m.right then (if (cV m.user M).isSome then 20 else 0) else 1
def lg(M:List (Int×Mem))(m:Mem):List (Int×Mem):=if m.right&&(cV m.user M).isNone then iR m.user m M else M
theorem RR{M:List (Int×Mem)}{m:Mem}:CP [] 137 [.ptr 1 0,.agg (mA m)] (sG M) (fun v H'=>v=iA (Er M m)/\∃G,H'=sG (lg M m)++G):=by
 refine ae U rfl ?_;repeat' ((conv=>whnf);first|with_reducible apply aa<;>intro _|refine aJ.drawn U rfl rfl ?_|with_reducible refine And.intro (aG.mk ⟨_,rfl,rfl⟩) ?_|refine K1 ?_|refine ai.lx _ l5 dC rfl rfl rfl rfl (fun a ha=>?_) (fun ha=>?_)|refine And.intro (aG.look _ l5 dC rfl rfl rfl rfl rfl (by assumption) rfl rfl) ?_|refine ai.dg (key:=m.user) (a:=m) l5 dC rfl rfl rfl rfl rfl rfl rfl rfl ?_|refine ae U rfl ?_)
 all_goals refine ⟨congrArg iA ?_,_,congrArg (·::_) (congrArg (fun l=>af.br (mE iK mC l)) ?_)⟩<;>simp_all [Er,lg]
def sB(u k ar:Int)(M:List (Int×Mem)):Int×List (Int×Mem):=match cV u M with
 | none=>(21,M)
 | some m=>if u=0\/k<1\/65535<k then (1,iR u m M) else (0,iR u { m with k:=k,cf:=ar } M)
theorem Mz{M:List (Int×Mem)}{u k ar:Int}:CP [] 138 [.ptr 1 0,iA u,.agg [iA k,uA ar]] (sG M) (fun v H'=>v=iA (sB u k ar M).1/\∃G,H'=sG (sB u k ar M).2++G):=by
 refine ae U rfl ?_;repeat' ((conv=>whnf);first|with_reducible apply aa<;>intro _|refine aJ.drawn U rfl rfl ?_|with_reducible refine And.intro (aG.mk ⟨_,rfl,rfl⟩) ?_|refine ai.lx _ l5 dC rfl rfl rfl rfl (fun a ha=>?_) (fun ha=>?_)|refine And.intro (aG.look _ l5 dC rfl rfl rfl rfl rfl (by assumption) rfl rfl) ?_|refine ai.dg (key:=u) (a:=a) l5 dC rfl rfl rfl rfl rfl rfl rfl rfl ?_|refine ai.dg (key:=u) (a:={ a with k:=k,cf:=ar }) l5 dC rfl rfl rfl rfl rfl rfl rfl rfl ?_|refine ae U rfl ?_)
 all_goals (try conv=>whnf);refine ⟨congrArg iA ?_,_,congrArg (·::_) (congrArg (fun l=>af.br (mE iK mC l)) ?_)⟩<;>simp_all [sB]<;>(repeat' split)<;>simp_all<;>omega
structure bY where
 l:Int
 x:Int
 y:Int
 deriving DecidableEq
abbrev mV(c:bY):AV:=.agg [iA c.l,iA c.x,iA c.y]
def ik(x n:Int):Int:=x.fdiv (2 ^ n.toNat)
def p2(n:Int):Int:=2 ^ n.toNat
def vf(x y l:Int):bY:=⟨l,ik x (16 - l),ik y (16 - l)⟩
def bY.right(c:bY):Bool:=decide (0<=c.l/\c.l<=16/\0<=c.x/\0<=c.y/\c.x<p2 c.l/\c.y<p2 c.l)
theorem OM{n:Int}(h:n<=20):p2 n<=1048576:=by
 have:n.toNat<=20:=by omega
 have h2:(2:Nat) ^ n.toNat<=2 ^ 20:=Nat.pow_le_pow_right (by omega) this;unfold p2;have:((2 ^ n.toNat:Nat):Int)=(2:Int) ^ n.toNat:=by simp
 omega
theorem wF(n:Int):1<=p2 n:=by
 have h2:(1:Nat)<=2 ^ n.toNat:=Nat.one_le_two_pow;unfold p2;have:((2 ^ n.toNat:Nat):Int)=(2:Int) ^ n.toNat:=by simp
 omega
theorem JE{n:Int}(h:n<=64):min n.toNat 64=n.toNat:=Nat.min_eq_left (by omega)
section
variable{S:List Nat}{H:List af}{K:AV->List af->Prop}
theorem Qq{l:Int}(h0:0<=l)(h1:l<=16)(k:K (iA (16 - l)) H):CP S 421 [iA l] H K:=by
 refine ag.pure ?_ (fun _=>rfl) (fun _=>rfl) k;refine ae U rfl ?_;repeat' ((conv=>whnf);first|with_reducible apply aa<;>intro _|refine ae U rfl ?_)
 exact congrArg iA (aj (by omega) (by omega))
theorem TA{l n:Int}(h0:0<=l)(h1:l<=16)(k:K (iA (ik n (16 - l))) H):CP S 324 [iA l,iA n] H K:=by
 refine ag.pure ?_ (fun _=>rfl) (fun _=>rfl) k;refine ae U rfl ?_;repeat' ((conv=>whnf);first|with_reducible apply aa<;>intro _|refine Qq h0 h1 ?_|refine ai.shr rfl rfl (by omega) ?_|refine ae U rfl ?_)
 refine congrArg iA ?_;unfold ik;rw[show IntKind.i64.bits=64 from rfl,JE (by omega)]
theorem V9{x y l:Int}(h0:0<=l)(h1:l<=16)(k:K (mV (vf x y l)) H):CP S 238 [.agg [iA x,iA y],iA l] H K:=by
 refine ag.pure ?_ (fun _=>rfl) (fun _=>rfl) k;refine ae U rfl ?_;repeat' ((conv=>whnf);first|with_reducible apply aa<;>intro _|refine TA h0 h1 ?_|refine ae U rfl ?_)
 rfl
theorem S8{l:Int}(h1:l<=16):IntKind.i64.wrap (1 * 2 ^ min l.toNat IntKind.i64.bits)=p2 l:=by
 have h2:=OM (n:=l) (by omega);have h3:=wF l;rw[show IntKind.i64.bits=64 from rfl,JE (by omega),Int.one_mul];exact aj (by unfold p2 at h3;omega) (by unfold p2 at h2;omega)
theorem Eo{c:bY}(k:K (bA c.right) H):CP S 326 [mV c] H K:=by
 refine ag.pure ?_ (fun _=>rfl) (fun _=>rfl) k;refine ae U rfl ?_;have h1:=S8 (l:=c.l);repeat' ((conv=>whnf);first|with_reducible apply aa<;>intro _|refine aJ.drawn U rfl rfl ?_|with_reducible refine And.intro (aG.mk ⟨_,rfl,rfl⟩) ?_|refine ai.shl rfl rfl (by simp_all) ?_|refine ae U rfl ?_)
 all_goals
  refine bh ?_
  simp_all [bY.right]
 all_goals omega
def bY.child(c:bY)(i:Int):bY:=if c.right&&decide (c.l≠16/\0<=i/\i<=3) then ⟨c.l+1,2 * c.x+i % 2,2 * c.y+i / 2⟩ else ⟨0,0,0⟩
theorem J8{c c':bY}{b b':Bool}(h:c=c')(h2:b=b'):AV.tuple [mV c,bA b]=.tuple [mV c',bA b']:=by rw[h,h2]
theorem bY.bd{c:bY}(h:c.right=true):0<=c.l/\c.l<=16/\0<=c.x/\0<=c.y/\c.x<1048576/\c.y<1048576:=by
 have h:=of_decide_eq_true h;have:=OM (n:=c.l) (by omega);omega
theorem Lp{c:bY}{i:Int}(h:c.right=true)(h1:0<=i)(h2:i<=3):(⟨IntKind.i64.wrap (c.l+1),IntKind.i64.wrap (IntKind.i64.wrap (2 * c.x)+i.tmod 2),IntKind.i64.wrap (IntKind.i64.wrap (2 * c.y)+IntKind.i64.wrap (i.tdiv 2))⟩:bY)=⟨c.l+1,2 * c.x+i % 2,2 * c.y+i / 2⟩:=by
 have:=bY.bd h;rw[Int.tmod_eq_emod_of_nonneg h1,Int.tdiv_eq_ediv_of_nonneg h1];have e1:IntKind.i64.wrap (2 * c.x)=2 * c.x:=aj (by omega) (by omega);have e2:IntKind.i64.wrap (2 * c.y)=2 * c.y:=aj (by omega) (by omega);have e3:IntKind.i64.wrap (i / 2)=i / 2:=aj (by omega) (by omega);rw[e1,e2,e3,aj (by omega) (by omega),aj (by omega) (by omega),aj (by omega) (by omega)]
theorem oL{c:bY}{i:Int}(k:K (.tuple [mV (c.child i),bA (c.right&&decide (c.l≠16/\0<=i/\i<=3))]) H):CP S 241 [mV c,iA i] H K:=by
 refine ag.pure ?_ (fun _=>rfl) (fun _=>rfl) k;refine ae U rfl ?_;repeat' ((conv=>whnf);first|with_reducible apply aa<;>intro _|refine Eo ?_|refine ai.rem rfl rfl rfl ?_|refine ai.quo rfl rfl rfl ?_|refine ae U rfl ?_)
 all_goals
  (try conv=>whnf)
  try simp only[decide_eq_true_eq,decide_eq_false_iff_not,beq_iff_eq,beq_eq_false_iff_ne] at *
 all_goals first
  | (refine J8 (c:=⟨0,0,0⟩) (b:=false) ?_ ?_<;>simp_all [bY.child]<;>omega)
  | (refine J8 (b:=true) ((Lp (by assumption) (by omega) (by omega)).trans ?_) ?_
     ·simp only[bY.child]
      rw[if_pos (by simp_all<;>omega)]
     ·simp_all<;>omega)
def bY.mM(c:bY)(l:Int):bY:=if c.right&&decide (0<=l/\l<=16/\l<=c.l) then ⟨l,ik c.x (c.l - l),ik c.y (c.l - l)⟩ else ⟨0,0,0⟩
theorem DN{x m:Int}(h0:0<=m)(h:m<=64):x.fdiv (2 ^ min (IntKind.i64.wrap m).toNat IntKind.i64.bits)=ik x m:=by
 rw[aj (by omega) (by omega),show IntKind.i64.bits=64 from rfl,JE (by omega)];rfl
theorem Qm{c:bY}{l:Int}(k:K (.tuple [mV (c.mM l),bA (c.right&&decide (0<=l/\l<=16/\l<=c.l))]) H):CP S 325 [mV c,iA l] H K:=by
 refine ag.pure ?_ (fun _=>rfl) (fun _=>rfl) k;refine ae U rfl ?_;have hb:=bY.bd (c:=c);repeat' ((conv=>whnf);first|with_reducible apply aa<;>intro _|refine aJ.drawn U rfl rfl ?_|with_reducible refine And.intro (aG.mk ⟨_,rfl,rfl⟩) ?_|refine Eo ?_|refine ai.shr rfl rfl (by simp_all;rw[aj]<;>omega) ?_|refine ae U rfl ?_)
 all_goals
  (try conv=>whnf)
  try simp only[decide_eq_true_eq,decide_eq_false_iff_not,beq_iff_eq,beq_eq_false_iff_ne] at *
 all_goals first
  | (refine J8 (c:=⟨0,0,0⟩) (b:=false) ?_ ?_<;>simp_all [bY.mM]<;>omega)
  | (refine J8 (c:=⟨l,ik c.x (c.l - l),ik c.y (c.l - l)⟩) (b:=true) ?_ ?_
     ·simp only[bY.mM]
      rw[if_pos (by simp_all<;>omega)]
     ·simp_all<;>omega)
  | (have hb:=bY.bd (c:=c) (by assumption)
     rw[DN (by omega) (by omega),DN (by omega) (by omega)]
     refine J8 (c:=⟨l,ik c.x (c.l - l),ik c.y (c.l - l)⟩) (b:=true) ?_ ?_
     ·simp only[bY.mM]
      rw[if_pos (by simp_all<;>omega)]
     ·simp_all<;>omega)
def fits(x y:Int):Bool:=decide (0<=x/\x<=65535/\0<=y/\y<=65535)
theorem V7{x y l:Int}(k:K (.tuple [mV (if decide (0<=l/\l<=16)&&fits x y then vf x y l else ⟨0,0,0⟩),bA (decide (0<=l/\l<=16)&&fits x y)]) H):CP S 321 [.agg [iA x,iA y],iA l] H K:=by
 refine ag.pure ?_ (fun _=>rfl) (fun _=>rfl) k;refine ae U rfl ?_;repeat' ((conv=>whnf);first|with_reducible apply aa<;>intro _|refine V9 (by simp_all) (by simp_all) ?_|refine ae U rfl ?_)
 all_goals
  (try conv=>whnf)
  try simp only[decide_eq_true_eq,decide_eq_false_iff_not,beq_iff_eq,beq_eq_false_iff_ne] at *
 all_goals first
  | (refine J8 (c:=⟨0,0,0⟩) (b:=false) ?_ ?_<;>simp_all [fits]<;>omega)
  | (refine J8 (b:=true) ?_ ?_<;>simp_all [fits])
def uV(x0 y0 x1 y1:Int):Nat->Nat->bY->bY
 | 0,_,h=>h
 | f+1,l,h=>if vf x1 y1 l=vf x0 y0 l then uV x0 y0 x1 y1 f (l+1) (vf x0 y0 l) else h
def EN(x0 y0 x1 y1:Int):bY:=uV x0 y0 x1 y1 17 0 ⟨0,0,0⟩
theorem FX{a b:bY}:(a.l==b.l&&(a.x==b.x&&(a.y==b.y&&true)))=decide (a=b):=by
 cases a;cases b
 rw[Bool.eq_iff_iff];simp
theorem TB{x0 y0 x1 y1:Int}(k:K (.tuple [mV (if oo x0 y0 x1 y1 then EN x0 y0 x1 y1 else ⟨0,0,0⟩),bA (oo x0 y0 x1 y1)]) H):CP S 143 [.agg [iA x0,iA y0,iA x1,iA y1]] H K:=by
 refine ag.pure ?_ (fun _=>rfl) (fun _=>rfl) k;refine ae U rfl ?_;repeat' ((conv=>whnf);first|with_reducible apply aa<;>intro _|refine aJ.drawn U rfl rfl ?_|with_reducible refine And.intro (aG.mk ⟨_,rfl,rfl⟩) ?_|refine zI ?_  | refine ae U rfl ?_)
 all_goals conv=>whnf
 ·rename_i hr;rw[hr];refine aW U rfl (fun s:Nat×bY=>[(1,.ptr 0 0),(2,.ptr 1 0),(3,bA false),(4,.ptr 2 0),(11,iA (s.1:Nat))]) (fun s=>[.cells [iA x0,iA y0,iA x1,iA y1] 76,.cells [iA 0,iA 0,iA 0] 232,.cells [iA s.2.l,iA s.2.x,iA s.2.y] 232])
   (fun s=>s.1<=17/\uV x0 y0 x1 y1 (17 - s.1) s.1 s.2=EN x0 y0 x1 y1) (fun s=>17 - s.1) (0,⟨0,0,0⟩) ⟨by omega,rfl⟩ [0,1,2] ?_ ?_
  ·exact ⟨rfl,⟨rr,rr,rr,rr,rr,tU⟩,⟨⟨_,rfl,rfl⟩,⟨_,rfl,rfl⟩,⟨_,rfl,rfl⟩,tU⟩⟩
  ·rintro ⟨l,h⟩ ⟨hl,hh⟩;simp only[] at hl hh;by_cases hk:l<17
   ·conv=>whnf
    refine aa (fun _=>?_) (fun h0=>absurd h0 (by simp;omega));repeat' ((conv=>whnf);first|with_reducible apply aa<;>intro _|refine aJ.drawn U rfl rfl ?_|with_reducible refine And.intro (aG.mk ⟨_,rfl,rfl⟩) ?_|refine V9 (l:=l) (by omega) (by omega) ?_|refine ae U rfl ?_)
    all_goals conv=>whnf
    all_goals
     rename_i hc
     rw[FX] at hc
     rw[show 17 - l=(16 - l)+1 by omega] at hh
     simp only[uV] at hh
    ·have hc:¬vf x1 y1 l=vf x0 y0 l:=by simpa using hc
     rw[if_neg hc] at hh;rw[<-hh];rfl
    ·have hc:vf x1 y1 l=vf x0 y0 l:=by simpa using hc
     rw[if_pos hc] at hh;exact ⟨(l+1,vf x0 y0 l),[0,1,2],⟨⟨by show l+1<=17;omega,by show uV x0 y0 x1 y1 (17 - (l+1)) (l+1) _=_;rw[<-hh,show 17 - (l+1)=16 - l by omega]⟩,by show 17 - (l+1)<17 - l;omega⟩,rfl,⟨rr,rr,rr,rr,⟨rfl,aw rfl (aj (by omega) (by omega))⟩,tU⟩,⟨⟨_,rfl,rfl⟩,⟨_,rfl,rfl⟩,⟨_,rfl,rfl⟩,tU⟩⟩
   ·conv=>whnf
    refine aa (fun h0=>absurd h0 (by simp;omega)) (fun _=>?_);repeat' ((conv=>whnf);first|with_reducible apply aa<;>intro _|refine aJ.drawn U rfl rfl ?_|with_reducible refine And.intro (aG.mk ⟨_,rfl,rfl⟩) ?_|refine ae U rfl ?_)
    conv=>whnf
    obtain rfl:l=17:=by omega
    rw[<-hh];rfl
 ·rename_i hr;rw[hr];rfl
end
end Go.Proofs.YtmbdghclhpboaaaGreat
