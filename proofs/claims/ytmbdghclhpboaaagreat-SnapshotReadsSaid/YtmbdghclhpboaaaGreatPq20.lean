/- Part of the proof: TokP Secret SEqual Tok Ros Cell. Conditions: as each states. -/
import Derived.Test.YtmbdghclhpboaaaGreatPq17
import Derived.StillTailTactics
import Derived.Test.YtmbdghclhpboaaaGreatPq19
set_option linter.all false
set_option maxRecDepth 100000
set_option maxHeartbeats 8000000
namespace Go.Proofs.YtmbdghclhpboaaaGreat
structure Fg where
 ops:Int
 bV:Int
 x0:Int
 y0:Int
 x1:Int
 y1:Int
 void:Bool
 mD:Int
deriving DecidableEq
structure cy where
 bH:Nat
 parent:Nat
 g:Fg
deriving DecidableEq
def o4(x0 y0 x1 y1:Int):Bool:=decide (0<=x0/\x0<=65535/\0<=y0/\y0<=65535/\0<=x1/\x1<=65535/\0<=y1/\y1<=65535/\x0<=x1/\y0<=y1)
def Fg.right(g:Fg):Bool:=decide (0<=g.ops/\g.ops<=31/\0<=g.bV/\g.bV<=16/\0<=g.mD/\g.mD<=4294967295)&&(if g.void then decide (g.x0=0/\g.y0=0/\g.x1=0/\g.y1=0) else o4 g.x0 g.y0 g.x1 g.y1)
def mY(l:List cy)(s:Nat):Option Nat:=if s=0 then none else l.findIdx? (fun k=>decide (k.bH=s))
def ef:List cy->List cy->Option (List cy)
 | [],acc=>some acc
 | k::r,acc=>if !k.g.right || decide (k.bH=0) || (mY acc k.bH).isSome || (decide (k.parent≠0)&&(mY acc k.parent).isNone) then none else ef r (acc++[k])
def cw(l:List cy):Option (List cy):=if 8<l.length then none else ef l []
open Go.RowKit
theorem wrap_u8(n:Int):IntKind.u8.wrap n=n % 256:=by simp[IntKind.wrap,IntKind.bits,IntKind.signed]
theorem Fp(a b:Nat)(ha:a<256)(hb:b<256):bits .xor .u8 (a:Int) (b:Int)=((a ^^^ b:Nat):Int):=by
 have hx:a ^^^ b<2 ^ 8:=Nat.xor_lt_two_pow (by omega) (by omega);have h1:(BitVec.ofInt 8 (a:Int)).toNat=a:=by
  rw[BitVec.ofInt_natCast,BitVec.toNat_ofNat];exact Nat.mod_eq_of_lt (by omega)
 have h2:(BitVec.ofInt 8 (b:Int)).toNat=b:=by
  rw[BitVec.ofInt_natCast,BitVec.toNat_ofNat];exact Nat.mod_eq_of_lt (by omega)
 show IntKind.u8.wrap ((BitVec.ofInt 8 (a:Int) ^^^ BitVec.ofInt 8 (b:Int)).toNat:Int)=_
 rw[BitVec.toNat_xor,h1,h2,wrap_u8];omega
theorem Hq(a b:Nat)(ha:a<256)(hb:b<256):bits .or .u8 (a:Int) (b:Int)=((a ||| b:Nat):Int):=by
 have hx:a ||| b<2 ^ 8:=Nat.or_lt_two_pow (by omega) (by omega);have h1:(BitVec.ofInt 8 (a:Int)).toNat=a:=by
  rw[BitVec.ofInt_natCast,BitVec.toNat_ofNat];exact Nat.mod_eq_of_lt (by omega)
 have h2:(BitVec.ofInt 8 (b:Int)).toNat=b:=by
  rw[BitVec.ofInt_natCast,BitVec.toNat_ofNat];exact Nat.mod_eq_of_lt (by omega)
 show IntKind.u8.wrap ((BitVec.ofInt 8 (a:Int) ||| BitVec.ofInt 8 (b:Int)).toNat:Int)=_
 rw[BitVec.toNat_or,h1,h2,wrap_u8];omega
def Nc(w:World)(c:Nat)(va vb:Value)(p n:Nat):Prop:=nu w c 525 #[va,vb,.int .u8 (p:Int),.int .i64 (n:Int)]
theorem OC(w:World)(c:Nat)(va vb:Value)(p n:Nat)(xs ys:List UInt8)(i:Nat)(B:Nat)(h:Nc w c va vb p n)
  (ha:Sl cB w B va xs) (hb:Sl cB w B vb ys) (hx:xs.length=8) (hy:ys.length=8) (hi:i<8) (hp:p<256) (Xs:n<1000) :
  Calls Tryz.prog 452 #[.pointer (some ⟨c,0,none⟩),.int .i64 i] w fun e w'=>e=.returned (.tuple #[])/\Nc w' c va vb (p ||| (xs[i].toNat ^^^ ys[i].toNat)) (n+1)/\kA [c] w w':=by
 obtain ⟨A,cap,rfl,PT,FJ,Iv⟩:=ha;obtain ⟨A',Vm,rfl,iW,lJ,lU⟩:=hb;obtain ⟨ab,ao,rfl,haB,Zu⟩:=Iv (by omega);obtain ⟨bb,bo,rfl,hbB,Zw⟩:=lU (by omega);have e1:=(Zu.elem fE i (by omega)).by
 have e2:=(Zw.elem fE i (by omega)).by
 rw[Nat.mul_one] at e1 e2;have hq:=Fp xs[i].toNat ys[i].toNat (UInt8.toNat_lt _) (UInt8.toNat_lt _);have hx8:xs[i].toNat ^^^ ys[i].toNat<2 ^ 8:=Nat.xor_lt_two_pow (UInt8.toNat_lt _) (UInt8.toNat_lt _);have hr:=Hq p (xs[i].toNat ^^^ ys[i].toNat) hp (by omega);unfold Nc at h ⊢;rw[hx,hy] at h;generalize xs[i].toNat ^^^ ys[i].toNat=z at hq hr hx8 ⊢;generalize xs[i].toNat=x at e1 hq;generalize ys[i].toNat=y at e2 hq;rw[hx,hy];have c0:w.cell? ⟨c,0,none⟩=some (.slice (some ⟨ab,ao,none⟩) 8 cap):=h.is 0 rfl;have c1:w.cell? ⟨c,1,none⟩=some (.slice (some ⟨bb,bo,none⟩) 8 Vm):=h.is 1 rfl;have c2:w.cell? ⟨c,2,none⟩=some (.int .u8 (p:Int)):=h.is 2 rfl;have c3:w.cell? ⟨c,3,none⟩=some (.int .i64 (n:Int)):=h.is 3 rfl;have f2:=h.frozen 2;have f3:=h.frozen 3;have HI:(i:Int)<8:=by omega
 have HH:=Lib.hid h;clear h Zu Zw Iv lU PT FJ iW lJ;go_enter Tryz.func452,Tryz.ntmps452;go_wp2;go_still_tail 22,(by kernel_rfl)
 ·go_wp2;refine bodyPost_end (results_none rfl _ _ _) rfl ?_;refine ⟨rfl,?_,?_⟩
  ·have h1:=(HH.out.put 2 (.int .u8 ((p ||| z:Nat):Int))).put 3 (.int .i64 ((n:Int)+1));simp only[List.setIfInBounds_toArray,List.set_cons_succ,List.set_cons_zero] at h1;exact h1
  ·have m1:=(kA.setCell w ⟨c,2,none⟩ (.int .u8 ((p ||| z:Nat):Int))).trans (kA.setCell _ ⟨c,3,none⟩ (.int .i64 ((n:Int)+1))) (by simp);exact ⟨m1.os,m1.tape,m1.output,m1.size,m1.block⟩
theorem DN(a b:Nat):a ^^^ b=0↔a=b:=by
 constructor
 ·intro h;have:=congrArg (· ^^^ b) h;simpa [Nat.xor_assoc,Nat.xor_self] using this
 ·rintro rfl;exact Nat.xor_self _
def z4(xs ys:List UInt8):Nat->Nat
 | 0=>0
 | k+1=>z4 xs ys k ||| ((xs.getD k 0).toNat ^^^ (ys.getD k 0).toNat)
theorem L5(xs ys:List UInt8):∀k,z4 xs ys k<256
 | 0=>Nat.succ_pos _
 | k+1=>by
   have h1:=L5 xs ys k;have h2:(xs.getD k 0).toNat ^^^ (ys.getD k 0).toNat<2 ^ 8:=Nat.xor_lt_two_pow (UInt8.toNat_lt _) (UInt8.toNat_lt _);exact Nat.or_lt_two_pow (n:=8) h1 h2
theorem D9(xs ys:List UInt8):∀k,z4 xs ys k=0↔∀i,i<k->xs.getD i 0=ys.getD i 0
 | 0=>by simp[z4]
 | k+1=>by
   rw[z4,Nat.or_eq_zero_iff,D9 xs ys k,DN];constructor
   ·rintro ⟨h1,h2⟩ i hi;rcases Nat.lt_succ_iff_lt_or_eq.1 hi with h|rfl
    ·exact h1 i h
    ·exact UInt8.toNat_inj.1 h2
   ·intro h;exact ⟨fun i hi=>h i (by omega),by rw[h k (by omega)]⟩
theorem Sc(w:World)(c:Nat)(va vb:Value)(xs ys:List UInt8)(B:Nat)(h:Nc w c va vb 0 0)
  (ha:Sl cB w B va xs) (hb:Sl cB w B vb ys) (hx:xs.length=8) (hy:ys.length=8) (hB:B<=c) (NB:B<=w.heap.size) :
  Calls Tryz.prog 451 #[.pointer (some ⟨c,0,none⟩),.func (.func 452) #[] #[]] w fun e w'=>e=.returned (.tuple #[])/\Nc w' c va vb (z4 xs ys 8) 8/\kA [c] w w':=by
 have HH:=Lib.hid h;have HA:=Lib.hid ha;have HBB:=Lib.hid hb;clear h ha hb;go_enter Tryz.func451,Tryz.ntmps451;go_wp2;go_loopw [4,5] (fun _ iv wr=>∃i:Nat,i<=8/\iv=.int .i64 (i:Int)/\Nc wr c va vb (z4 xs ys i) i/\kA [c] w wr) (fun _ iv _=>(8 - intOf iv).toNat);case atStart=>exact ⟨0,by omega,rfl,HH.out,kA.refl _ _⟩
 case round=>
  obtain ⟨i,hi,rfl,hc,hm⟩:=hrel;have IN:=hm.size;have HC:=Lib.hid hc;have HM:=Lib.hid hm;clear hc hm;by_cases an:i<8
  ·have hA:=HA.out.mu (w':=wr) fun b hb=>HM.out.block b (by omega) (by simp;omega);have hV:=HBB.out.mu (w':=wr) fun b hb=>HM.out.block b (by omega) (by simp;omega);have HS:=Lib.hid (OC wr c va vb (z4 xs ys i) i xs ys i B HC.out hA hV hx hy an (L5 _ _ _) (by omega));clear hA hV;have hli:(i:Int)<8:=by omega
   go_wp2_with fail;refine HS.out.mono ?_;rintro e w2 ⟨rfl,NI,yu⟩;have HC2:=Lib.hid NI;have HM2:=Lib.hid (HM.out.trans yu (by simp));clear NI yu;go_wp2;go_roundw;case rel=>
    refine ⟨i+1,by omega,by go_num,?_,HM2.out⟩;have e1:xs.getD i 0=xs[i]:=by simp[List.getD,hx,an]
    have e2:ys.getD i 0=ys[i]:=by simp[List.getD,hy,an]
    rw[z4,e1,e2];exact HC2.out
   case measure=>simp[intOf];omega
  ·obtain rfl:i=8:=by omega
   go_wp2;refine bodyPost_end (results_none rfl _ _ _) rfl ?_;exact ⟨rfl,HC.out,HM.out⟩
theorem LJ{a b:Nat}(ha:a<18446744073709551616)(hb:b<18446744073709551616):z4 (cG 8 a) (cG 8 b) 8=0↔a=b:=by
 rw[D9];constructor
 ·intro h;have e:cG 8 a=cG 8 b:=by
   apply List.ext_getElem (by rw[bR,bR]);intro i h1 h2;have h3:=h i (by rw[bR] at h1;exact h1);simpa [List.getD,h1,h2] using h3
  have:=congrArg jE e;rwa [sF 8 a (by omega),sF 8 b (by omega)] at this
 ·rintro rfl i _;rfl
theorem Lt(a b:Nat)(w:World)(ha:a<18446744073709551616)(hb:b<18446744073709551616) :
  Calls Tryz.prog 364 #[.int .u64 a,.int .u64 b] w fun e w'=>e=.returned (.tuple #[.bool (decide (a=b)),.int .i64 8])/\Below w.heap.size w w':=by
 have HPA:=Lib.hid (fun w=>oq a 8 w (by omega) (by omega) ha (by omega));have HPB:=Lib.hid (fun w=>oq b 8 w (by omega) (by omega) hb (by omega));have HD:=Lib.hid (LJ ha hb);clear ha hb;go_enter Tryz.func364,Tryz.ntmps364;go_wp2_with fail;refine (HPA.out _).mono ?_;rintro e w1 ⟨va,rfl,TC,iW⟩;obtain ⟨A,ca,rfl⟩:=TC.form;rw[bR] at TC ⊢;have HVA:=Lib.hid TC.sl;have YD:=Lib.hid iW;clear TC iW;go_wp2_with fail;refine (HPB.out _).mono ?_;rintro e w2 ⟨vb,rfl,TD,lJ⟩;obtain ⟨A',cb,rfl⟩:=TD.form;rw[bR] at TD ⊢;have HVB:=Lib.hid TD.sl;have YF:=Lib.hid (HVA.out.below lJ);have SE:=Lib.hid (YD.out.trans (lJ.mono YD.out.size));have YE:=Lib.hid lJ.size;clear TD lJ;have hn:=nu.new w2 525 #[.slice A 8 ca,.slice A' 8 cb,.int .u8 0,.int .i64 0];have HA3:=Lib.hid (Sc (w2.alloc (.cells #[.slice A 8 ca,.slice A' 8 cb,.int .u8 0,.int .i64 0] 525)) w2.heap.size (.slice A 8 ca) (.slice A' 8 cb) (cG 8 a) (cG 8 b) w2.heap.size hn ((YF.out.below ((Below.refl _ w2).alloc YE.out _)).more YE.out) (HVB.out.below ((Below.refl _ w2).alloc (Nat.le_refl _) _)) (bR _ _) (bR _ _) (Nat.le_refl _) (by simp));clear hn;go_wp2_with fail;refine HA3.out.mono ?_;rintro e w3 ⟨rfl,PW,ZO⟩;have c2:w3.cell? ⟨w2.heap.size,2,none⟩=some (.int .u8 ((z4 (cG 8 a) (cG 8 b) 8:Nat):Int)):=nu.is PW 2 rfl;have c3:w3.cell? ⟨w2.heap.size,3,none⟩=some (.int .i64 ((8:Nat):Int)):=nu.is PW 3 rfl;have HB3:=Lib.hid ((SE.out.alloc SE.out.size (.cells #[.slice A 8 ca,.slice A' 8 cb,.int .u8 0,.int .i64 0] 525)).trans (ZO.below (B:=w.heap.size) (by have:=SE.out.size;simp;omega) (by have:=SE.out.size;simpa using this)));clear PW ZO;generalize z4 (cG 8 a) (cG 8 b) 8=d at c2 HD;go_wp2_with fail;go_quiet (fail);go_wp2_with fail;go_ret2;have hd:((d:Int)==0)=decide (a=b):=by
  by_cases h:a=b
  ·have:=HD.out.2 h;subst this;simp[h]
  ·have h1:d≠0:=fun e=>h (HD.out.1 e);rw[decide_eq_false h];simpa using h1
 refine ⟨?_,below_drewN HB3.out _⟩;rw[<-hd];rfl
open Ev
abbrev iA(n:Int):AV:=.lit (.int .i64 n)
abbrev uA(n:Int):AV:=.lit (.int .u64 n)
abbrev bA(b:Bool):AV:=.lit (.bool b)
abbrev CP(S:List Nat)(f:Nat)(args:List AV)(H:List ai)(K:AV->List ai->Prop):Prop:=aj Tryz.prog S f args H K
theorem bc{a b:Bool}(h:a=b):bA a=bA b:=by rw[h]
section
variable{S:List Nat}{H:List ai}{K:AV->List ai->Prop}
theorem AK{x0 y0 x1 y1:Int}(k:K (bA (o4 x0 y0 x1 y1)) H):CP S 215 [.agg [iA x0,iA y0,iA x1,iA y1]] H K:=by
 refine aj.pure ?_ (fun _=>rfl) (fun _=>rfl) k;refine ag aa rfl ?_;repeat' ((conv=>whnf);first|with_reducible apply af<;>intro _|refine ag aa rfl ?_)
 all_goals
  refine bc ?_
  simp_all [o4]
 all_goals omega
theorem JJ{g:Fg}(k:K (bA g.right) H):CP S 225 [.agg [iA g.ops,iA g.bV,iA g.x0,iA g.y0,iA g.x1,iA g.y1,bA g.void,iA g.mD]] H K:=by
 refine aj.pure ?_ (fun _=>rfl) (fun _=>rfl) k;refine ag aa rfl ?_;repeat' ((conv=>whnf);first|with_reducible apply af<;>intro _|refine AK ?_)
 all_goals
  refine bc ?_
  simp_all [Fg.right]
 all_goals omega
theorem ax{t:aE}{i:Nat}{n m:Int}{g:Nat->Nat}(h:t.get i=some (iA m))(e:m=n):t.get i=some ((iA n).cI g):=by rw[h,e];rfl
def uC(n:Nat):Value:=.int .u64 n
def pP(s:Nat)(l:List Nat):Int:=match (if s=0 then none else l.findIdx? (fun x=>decide (x=s))) with
 | some i=>i
 | none=>-1
theorem Ih(s x:Nat)(l:List Nat):pP s (l++[x])=if x=s/\pP s l<0/\s≠0 then (l.length:Int) else pP s l:=by
 unfold pP;by_cases h0:s=0
 ·simp[h0]
 ·simp only[h0,if_false,List.findIdx?_append];cases h:l.findIdx? (fun x=>decide (x=s)) with
  | some i=>simp;omega
  | none=>
    by_cases hx:x=s<;>simp[hx,List.findIdx?_cons,h0]
theorem bq{α:Type}{l:List α}{k:Nat}(h:k<l.length):l.take (k+1)=l.take k++[l[k]]:=List.take_succ_eq_append_getElem h
theorem ak{n:Int}(h1:-9223372036854775808<=n)(h2:n<=9223372036854775807):IntKind.i64.wrap n=n:=IntWalk.i64_in n ⟨h1,h2⟩
theorem bT{a b:Nat}{X:Prop}(k:a<b)(h:decide ((a:Int)<(b:Int))=false):X:=by
 rw[decide_eq_false_iff_not] at h;exact absurd (Int.ofNat_lt.2 k) h
theorem cF{a b:Nat}{X:Prop}(k:¬a<b)(h:decide ((a:Int)<(b:Int))=true):X:=by
 rw[decide_eq_true_iff] at h;exact absurd (Int.ofNat_lt.1 h) k
theorem UQ{l:List Nat}{s:Nat}{c:pe}(hl:l.length<=1000)(hb:∀x∈l,x<18446744073709551616)(hs:s<18446744073709551616){K:AV->List ai->Prop}
  (kK:K (.tuple [iA (pP s l),iA (8 * l.length)]) [.row (l.map uC) 47]):CP [] 275 [.slice 0 0 l.length c,uA s] [.row (l.map uC) 47] K:=by
 refine ag aa rfl ?_;conv=>whnf
 refine aV aa rfl (fun k=>[(1,uA s),(12,.slice 0 0 l.length c),(13,iA l.length),(14,iA (k:Nat)),(6,iA (pP s (l.take k))),(7,iA (8 * k))]) (fun _=>[.row (l.map uC) 47]) (·<=l.length) (fun k=>l.length - k) 0 (Nat.zero_le _) [0] ?_ ?_
 ·exact ⟨rfl,⟨rr,rr,rr,rr,⟨rfl,ax rfl (by simp[pP])⟩,⟨rfl,rfl⟩,tU⟩,⟨⟨_,rfl,rfl⟩,tU⟩⟩
 ·intro k gl;conv=>whnf
  by_cases hk:k<l.length
  ·refine af (fun _=>?_) (bT hk);conv=>whnf
   refine aO.of rfl hk ?_;conv=>whnf
   refine dL.val hk ?_;conv=>whnf
   refine aj.Et aa rfl rfl (Lt l[k] s · (hb _ (List.getElem_mem hk)) hs) ?_;have XC:=Ih s l[k] (l.take k);rw[<-bq hk,List.length_take,Nat.min_eq_left (Nat.le_of_lt hk)] at XC;repeat' ((conv=>whnf);with_reducible apply af<;>intro _)
   all_goals
    refine ⟨k+1,[0],⟨hk,by omega⟩,rfl,⟨rr,rr,rr,⟨rfl,ax rfl (ak (by omega) (by omega))⟩,⟨rfl,ax rfl ?_⟩,⟨rfl,ax rfl ?_⟩,tU⟩,⟨⟨_,rfl,rfl⟩,tU⟩⟩
   all_goals first
    | exact ak (by omega) (by omega)
    | (simp_all;done)
    | (rw[XC];simp_all;done)
    | (rw[XC,if_neg];simp_all;try omega)
  ·obtain rfl:k=l.length:=by omega
   refine af (cF hk) (fun _=>?_);rw[List.take_length];conv=>whnf
   exact kK
end
def sx(o size:Nat):Nat->AV
 | 0=>.lit (.slice none 0 0)
 | k+1=>.slice o 0 (k+1) (.grown size)
def Al(xs:List Value)(e:TypeId):Nat->List ai
 | 0=>[]
 | _+1=>[.row xs e]
theorem Hn:iO ev 372 47 1:=⟨⟨_,rfl,rfl⟩,_,_,rfl,rfl,rfl,rfl,by decide⟩
def tC(k:cy):List Value:=[.int .u64 k.bH,.int .u64 k.parent,.int .i64 k.g.ops,.int .i64 k.g.bV,.int .i64 k.g.x0,.int .i64 k.g.y0,.int .i64 k.g.x1,.int .i64 k.g.y1,.bool k.g.void,.int .i64 k.g.mD]
theorem xU(k:cy):(tC k).length=10:=rfl
theorem aay{S:List Nat}{k:cy}{H:List ai}{K:AV->List ai->Prop}(h:K (uA k.bH) H):CP S 262 [.agg ((tC k).map .lit)] H K:=by
 refine aj.pure ?_ (fun _=>rfl) (fun _=>rfl) h;refine ag aa rfl ?_;conv=>whnf
 repeat' ((conv=>whnf);with_reducible apply af<;>intro _)
 all_goals rfl
theorem Sh{l:List cy}{c:pe}(hl:l.length<=1000){K:AV->List ai->Prop}(hK:∀n,n=l.length->K (sx 2 1 n) ([.cells [.slice 1 0 l.length c] 296,.row (l.flatMap tC) 293]++Al (l.map fun k=>uC k.bH) 47 n)) :
  CP [] 261 [.ptr 0 0,.lit (.func (.func 262) #[] #[])] [.cells [.slice 1 0 l.length c] 296,.row (l.flatMap tC) 293] K:=by
 refine ag aa rfl ?_;conv=>whnf
 refine aV aa rfl (fun k=>[(1,.lit (.func (.func 262) #[] #[])),(11,.slice 1 0 l.length c),(12,iA l.length),(13,iA (k:Nat)),(5,sx 2 1 k)]) (fun k=>[.cells [.slice 1 0 l.length c] 296,.row (l.flatMap tC) 293]++Al ((l.take k).map fun k=>uC k.bH) 47 k) (·<=l.length) (fun k=>l.length - k) 0 (Nat.zero_le _) [0,1] ?_ ?_
 ·exact ⟨rfl,⟨rr,rr,rr,rr,rr,tU⟩,⟨⟨_,rfl,rfl⟩,⟨_,rfl,rfl⟩,tU⟩⟩
 ·intro k gl;by_cases hk:k<l.length
  ·have hs:=bq hk;rcases k with _|k;all_goals
    conv=>whnf
    refine af (fun _=>?_) (bT hk)
    conv=>whnf
    refine aO.of rfl hk ?_
    conv=>whnf
    refine dL.elem xU hk ?_
    conv=>whnf
    refine aay ?_
    conv=>whnf
    first
     | refine dx.nil Hn rfl rfl rfl rfl rfl ?_
     | refine dx.own Hn rfl rfl rfl rfl rfl rfl (by simp;omega) (by omega) ?_
    conv=>whnf
   ·exact ⟨1,[0,1,4],⟨hk,by omega⟩,rfl,⟨rr,rr,rr,⟨rfl,ax rfl rfl⟩,⟨rfl,rfl⟩,tU⟩,⟨⟨_,rfl,rfl⟩,⟨_,rfl,rfl⟩,⟨_,rfl,by rw[hs];rfl⟩,tU⟩⟩
   ·exact ⟨k+2,[0,1,5],⟨hk,by omega⟩,rfl,⟨rr,rr,rr,⟨rfl,ax rfl (ak (by omega) (by omega))⟩,⟨rfl,rfl⟩,tU⟩,⟨⟨_,rfl,rfl⟩,⟨_,rfl,rfl⟩,⟨_,rfl,by rw[hs,List.map_append];rfl⟩,tU⟩⟩
  ·have eQ:k=l.length:=by omega
   have ht:l.take k=l:=by rw[eQ,List.take_length]
   rcases k with _|k;all_goals
    conv=>whnf
    refine af (cF hk) (fun _=>?_)
    conv=>whnf
    rw[ht]
    exact hK _ eQ
structure Mem where
 user:Int
 role:Int
 jo:Int
 fL:Int
 k:Int
 cu:Int
def mC(m:Mem):Value:=.agg #[.int .i64 m.user,.int .i64 m.role,.int .i64 m.jo,.int .i64 m.fL,.int .i64 m.k,.int .u64 m.cu]
def mA(m:Mem):List AV:=[iA m.user,iA m.role,iA m.jo,iA m.fL,iA m.k,uA m.cu]
abbrev iK(i:Int):Value:=.int .i64 i
theorem dY:po ev 3 iK:=po.int ⟨_,rfl,rfl⟩
theorem mP:p8 ev 255 3 (.agg [iA 0,iA 0,iA 0,iA 0,iA 0,uA 0]):=⟨_,_,_,_,rfl,rfl,rfl,rfl,rfl⟩
def tO(M:List (Int×Mem)):List ai:=[.bE (mE iK mC M),.cells [.map 0] 257]
def Mem.right(m:Mem):Bool:=decide (0<m.user/\m.user<65535/\0<=m.role/\m.role<=7/\0<=m.jo/\m.jo<=7/\0<=m.fL/\m.fL<=65535/\m.k=0/\m.cu=0)
theorem MK{S:List Nat}{H:List ai}{K:AV->List ai->Prop}{m:Mem}(k:K (bA m.right) H):CP S 226 [.agg (mA m)] H K:=by
 refine aj.pure ?_ (fun _=>rfl) (fun _=>rfl) k;refine ag aa rfl ?_;repeat' ((conv=>whnf);first|with_reducible apply af<;>intro _|refine ag aa rfl ?_)
 all_goals
  refine bc ?_
  simp_all [Mem.right]
 all_goals omega
theorem aav:CP [] 131 [] [] (fun v H'=>v=.ptr 1 0/\∃G,H'=tO [(0,⟨0,0,0,65535,0,0⟩)]++G):=by
 refine aj.wk (K:=fun v H'=>v=.ptr 1 0/\H'=[.map [(iA 0,.agg (mA ⟨0,0,0,65535,0,0⟩),0)] 1,.cells [.map 0] 257]) ?_ (fun v H1 h=>?_)
 ·refine ag aa rfl ?_;conv=>whnf
  refine al.QI (.inr rfl) rfl rfl rfl rfl rfl rfl rfl rfl rfl ?_;conv=>whnf
  exact ⟨rfl,rfl⟩
 ·obtain ⟨rfl,rfl⟩:=h;exact ⟨_,.map rfl rfl (by simp) (.same .nil),rfl,[],rfl⟩
def FC(M:List (Int×Mem))(m:Mem):Int:=if m.right then (if (dy m.user M).isSome then 20 else 0) else 1
def lR(M:List (Int×Mem))(m:Mem):List (Int×Mem):=if m.right&&(dy m.user M).isNone then jx m.user m M else M
theorem Uw{M:List (Int×Mem)}{m:Mem}:CP [] 137 [.ptr 1 0,.agg (mA m)] (tO M) (fun v H'=>v=iA (FC M m)/\∃G,H'=tO (lR M m)++G):=by
 refine ag aa rfl ?_;repeat' ((conv=>whnf);first|with_reducible apply af<;>intro _|refine aM.drawn aa rfl rfl ?_|with_reducible refine And.intro (aN.mk ⟨_,rfl,rfl⟩) ?_|refine MK ?_|refine al.lY _ mP dY rfl rfl rfl rfl (fun a ha=>?_) (fun ha=>?_)|refine And.intro (aN.look _ mP dY rfl rfl rfl rfl rfl (by assumption) rfl rfl) ?_|refine al.dM (key:=m.user) (a:=m) mP dY rfl rfl rfl rfl rfl rfl rfl rfl ?_|refine ag aa rfl ?_)
 all_goals refine ⟨congrArg iA ?_,_,congrArg (·::_) (congrArg (fun l=>ai.bE (mE iK mC l)) ?_)⟩<;>simp_all [FC,lR]
def tJ(u k ar:Int)(M:List (Int×Mem)):Int×List (Int×Mem):=match dy u M with
 | none=>(21,M)
 | some m=>if u=0\/k<1\/65535<k then (1,jx u m M) else (0,jx u { m with k:=k,cu:=ar } M)
theorem Ot{M:List (Int×Mem)}{u k ar:Int}:CP [] 138 [.ptr 1 0,iA u,.agg [iA k,uA ar]] (tO M) (fun v H'=>v=iA (tJ u k ar M).1/\∃G,H'=tO (tJ u k ar M).2++G):=by
 refine ag aa rfl ?_;repeat' ((conv=>whnf);first|with_reducible apply af<;>intro _|refine aM.drawn aa rfl rfl ?_|with_reducible refine And.intro (aN.mk ⟨_,rfl,rfl⟩) ?_|refine al.lY _ mP dY rfl rfl rfl rfl (fun a ha=>?_) (fun ha=>?_)|refine And.intro (aN.look _ mP dY rfl rfl rfl rfl rfl (by assumption) rfl rfl) ?_|refine al.dM (key:=u) (a:=a) mP dY rfl rfl rfl rfl rfl rfl rfl rfl ?_|refine al.dM (key:=u) (a:={ a with k:=k,cu:=ar }) mP dY rfl rfl rfl rfl rfl rfl rfl rfl ?_|refine ag aa rfl ?_)
 all_goals (try conv=>whnf);refine ⟨congrArg iA ?_,_,congrArg (·::_) (congrArg (fun l=>ai.bE (mE iK mC l)) ?_)⟩<;>simp_all [tJ]<;>(repeat' split)<;>simp_all<;>omega
structure cD where
 l:Int
 x:Int
 y:Int
 deriving DecidableEq
abbrev nU(c:cD):AV:=.agg [iA c.l,iA c.x,iA c.y]
def iU(x n:Int):Int:=x.fdiv (2 ^ n.toNat)
def p2(n:Int):Int:=2 ^ n.toNat
def vL(x y l:Int):cD:=⟨l,iU x (16 - l),iU y (16 - l)⟩
def cD.right(c:cD):Bool:=decide (0<=c.l/\c.l<=16/\0<=c.x/\0<=c.y/\c.x<p2 c.l/\c.y<p2 c.l)
theorem QZ{n:Int}(h:n<=20):p2 n<=1048576:=by
 have:n.toNat<=20:=by omega
 have h2:(2:Nat) ^ n.toNat<=2 ^ 20:=Nat.pow_le_pow_right (by omega) this;unfold p2;have:((2 ^ n.toNat:Nat):Int)=(2:Int) ^ n.toNat:=by simp
 omega
theorem xw(n:Int):1<=p2 n:=by
 have h2:(1:Nat)<=2 ^ n.toNat:=Nat.one_le_two_pow;unfold p2;have:((2 ^ n.toNat:Nat):Int)=(2:Int) ^ n.toNat:=by simp
 omega
theorem K6{n:Int}(h:n<=64):min n.toNat 64=n.toNat:=Nat.min_eq_left (by omega)
section
variable{S:List Nat}{H:List ai}{K:AV->List ai->Prop}
theorem SQ{l:Int}(h0:0<=l)(h1:l<=16)(k:K (iA (16 - l)) H):CP S 421 [iA l] H K:=by
 refine aj.pure ?_ (fun _=>rfl) (fun _=>rfl) k;refine ag aa rfl ?_;repeat' ((conv=>whnf);first|with_reducible apply af<;>intro _|refine ag aa rfl ?_)
 exact congrArg iA (ak (by omega) (by omega))
theorem Wi{l n:Int}(h0:0<=l)(h1:l<=16)(k:K (iA (iU n (16 - l))) H):CP S 324 [iA l,iA n] H K:=by
 refine aj.pure ?_ (fun _=>rfl) (fun _=>rfl) k;refine ag aa rfl ?_;repeat' ((conv=>whnf);first|with_reducible apply af<;>intro _|refine SQ h0 h1 ?_|refine al.shr rfl rfl (by omega) ?_|refine ag aa rfl ?_)
 refine congrArg iA ?_;unfold iU;rw[show IntKind.i64.bits=64 from rfl,K6 (by omega)]
theorem YU{x y l:Int}(h0:0<=l)(h1:l<=16)(k:K (nU (vL x y l)) H):CP S 238 [.agg [iA x,iA y],iA l] H K:=by
 refine aj.pure ?_ (fun _=>rfl) (fun _=>rfl) k;refine ag aa rfl ?_;repeat' ((conv=>whnf);first|with_reducible apply af<;>intro _|refine Wi h0 h1 ?_|refine ag aa rfl ?_)
 rfl
theorem VO{l:Int}(h1:l<=16):IntKind.i64.wrap (1 * 2 ^ min l.toNat IntKind.i64.bits)=p2 l:=by
 have h2:=QZ (n:=l) (by omega);have h3:=xw l;rw[show IntKind.i64.bits=64 from rfl,K6 (by omega),Int.one_mul];exact ak (by unfold p2 at h3;omega) (by unfold p2 at h2;omega)
theorem FA{c:cD}(k:K (bA c.right) H):CP S 326 [nU c] H K:=by
 refine aj.pure ?_ (fun _=>rfl) (fun _=>rfl) k;refine ag aa rfl ?_;have h1:=VO (l:=c.l);repeat' ((conv=>whnf);first|with_reducible apply af<;>intro _|refine aM.drawn aa rfl rfl ?_|with_reducible refine And.intro (aN.mk ⟨_,rfl,rfl⟩) ?_|refine al.shl rfl rfl (by simp_all) ?_|refine ag aa rfl ?_)
 all_goals
  refine bc ?_
  simp_all [cD.right]
 all_goals omega
def cD.child(c:cD)(i:Int):cD:=if c.right&&decide (c.l≠16/\0<=i/\i<=3) then ⟨c.l+1,2 * c.x+i % 2,2 * c.y+i / 2⟩ else ⟨0,0,0⟩
theorem LF{c c':cD}{b b':Bool}(h:c=c')(h2:b=b'):AV.tuple [nU c,bA b]=.tuple [nU c',bA b']:=by rw[h,h2]
theorem cD.bd{c:cD}(h:c.right=true):0<=c.l/\c.l<=16/\0<=c.x/\0<=c.y/\c.x<1048576/\c.y<1048576:=by
 have h:=dT1 h;have:=QZ (n:=c.l) (by omega);omega
theorem No{c:cD}{i:Int}(h:c.right=true)(h1:0<=i)(h2:i<=3):(⟨IntKind.i64.wrap (c.l+1),IntKind.i64.wrap (IntKind.i64.wrap (2 * c.x)+i.tmod 2),IntKind.i64.wrap (IntKind.i64.wrap (2 * c.y)+IntKind.i64.wrap (i.tdiv 2))⟩:cD)=⟨c.l+1,2 * c.x+i % 2,2 * c.y+i / 2⟩:=by
 have:=cD.bd h;rw[Int.tmod_eq_emod_of_nonneg h1,Int.tdiv_eq_ediv_of_nonneg h1];have e1:IntKind.i64.wrap (2 * c.x)=2 * c.x:=ak (by omega) (by omega);have e2:IntKind.i64.wrap (2 * c.y)=2 * c.y:=ak (by omega) (by omega);have e3:IntKind.i64.wrap (i / 2)=i / 2:=ak (by omega) (by omega);rw[e1,e2,e3,ak (by omega) (by omega),ak (by omega) (by omega),ak (by omega) (by omega)]
theorem pw{c:cD}{i:Int}(k:K (.tuple [nU (c.child i),bA (c.right&&decide (c.l≠16/\0<=i/\i<=3))]) H):CP S 241 [nU c,iA i] H K:=by
 refine aj.pure ?_ (fun _=>rfl) (fun _=>rfl) k;refine ag aa rfl ?_;repeat' ((conv=>whnf);first|with_reducible apply af<;>intro _|refine FA ?_|refine al.rem rfl rfl rfl ?_|refine al.quo rfl rfl rfl ?_|refine ag aa rfl ?_)
 all_goals
  (try conv=>whnf)
  try simp only[decide_eq_true_eq,decide_eq_false_iff_not,beq_iff_eq,beq_eq_false_iff_ne] at *
 all_goals first
  | (refine LF (c:=⟨0,0,0⟩) (b:=false) ?_ ?_<;>simp_all [cD.child]<;>omega)
  | (refine LF (b:=true) ((No (by assumption) (by omega) (by omega)).trans ?_) ?_
     ·simp only[cD.child]
      rw[if_pos (by simp_all<;>omega)]
     ·simp_all<;>omega)
def cD.nK(c:cD)(l:Int):cD:=if c.right&&decide (0<=l/\l<=16/\l<=c.l) then ⟨l,iU c.x (c.l - l),iU c.y (c.l - l)⟩ else ⟨0,0,0⟩
theorem EU{x m:Int}(h0:0<=m)(h:m<=64):x.fdiv (2 ^ min (IntKind.i64.wrap m).toNat IntKind.i64.bits)=iU x m:=by
 rw[ak (by omega) (by omega),show IntKind.i64.bits=64 from rfl,K6 (by omega)];rfl
theorem SM{c:cD}{l:Int}(k:K (.tuple [nU (c.nK l),bA (c.right&&decide (0<=l/\l<=16/\l<=c.l))]) H):CP S 325 [nU c,iA l] H K:=by
 refine aj.pure ?_ (fun _=>rfl) (fun _=>rfl) k;refine ag aa rfl ?_;have hb:=cD.bd (c:=c);repeat' ((conv=>whnf);first|with_reducible apply af<;>intro _|refine aM.drawn aa rfl rfl ?_|with_reducible refine And.intro (aN.mk ⟨_,rfl,rfl⟩) ?_|refine FA ?_|refine al.shr rfl rfl (by simp_all;rw[ak]<;>omega) ?_|refine ag aa rfl ?_)
 all_goals
  (try conv=>whnf)
  try simp only[decide_eq_true_eq,decide_eq_false_iff_not,beq_iff_eq,beq_eq_false_iff_ne] at *
 all_goals first
  | (refine LF (c:=⟨0,0,0⟩) (b:=false) ?_ ?_<;>simp_all [cD.nK]<;>omega)
  | (refine LF (c:=⟨l,iU c.x (c.l - l),iU c.y (c.l - l)⟩) (b:=true) ?_ ?_
     ·simp only[cD.nK]
      rw[if_pos (by simp_all<;>omega)]
     ·simp_all<;>omega)
  | (have hb:=cD.bd (c:=c) (by assumption)
     rw[EU (by omega) (by omega),EU (by omega) (by omega)]
     refine LF (c:=⟨l,iU c.x (c.l - l),iU c.y (c.l - l)⟩) (b:=true) ?_ ?_
     ·simp only[cD.nK]
      rw[if_pos (by simp_all<;>omega)]
     ·simp_all<;>omega)
def fits(x y:Int):Bool:=decide (0<=x/\x<=65535/\0<=y/\y<=65535)
theorem YR{x y l:Int}(k:K (.tuple [nU (if decide (0<=l/\l<=16)&&fits x y then vL x y l else ⟨0,0,0⟩),bA (decide (0<=l/\l<=16)&&fits x y)]) H):CP S 321 [.agg [iA x,iA y],iA l] H K:=by
 refine aj.pure ?_ (fun _=>rfl) (fun _=>rfl) k;refine ag aa rfl ?_;repeat' ((conv=>whnf);first|with_reducible apply af<;>intro _|refine YU (by simp_all) (by simp_all) ?_|refine ag aa rfl ?_)
 all_goals
  (try conv=>whnf)
  try simp only[decide_eq_true_eq,decide_eq_false_iff_not,beq_iff_eq,beq_eq_false_iff_ne] at *
 all_goals first
  | (refine LF (c:=⟨0,0,0⟩) (b:=false) ?_ ?_<;>simp_all [fits]<;>omega)
  | (refine LF (b:=true) ?_ ?_<;>simp_all [fits])
def vA(x0 y0 x1 y1:Int):Nat->Nat->cD->cD
 | 0,_,h=>h
 | f+1,l,h=>if vL x1 y1 l=vL x0 y0 l then vA x0 y0 x1 y1 f (l+1) (vL x0 y0 l) else h
def FY(x0 y0 x1 y1:Int):cD:=vA x0 y0 x1 y1 17 0 ⟨0,0,0⟩
theorem Hr{a b:cD}:(a.l==b.l&&(a.x==b.x&&(a.y==b.y&&true)))=decide (a=b):=by
 cases a;cases b
 rw[Bool.eq_iff_iff];simp
theorem Wj{x0 y0 x1 y1:Int}(k:K (.tuple [nU (if o4 x0 y0 x1 y1 then FY x0 y0 x1 y1 else ⟨0,0,0⟩),bA (o4 x0 y0 x1 y1)]) H):CP S 143 [.agg [iA x0,iA y0,iA x1,iA y1]] H K:=by
 refine aj.pure ?_ (fun _=>rfl) (fun _=>rfl) k;refine ag aa rfl ?_;repeat' ((conv=>whnf);first|with_reducible apply af<;>intro _|refine aM.drawn aa rfl rfl ?_|with_reducible refine And.intro (aN.mk ⟨_,rfl,rfl⟩) ?_|refine AK ?_  | refine ag aa rfl ?_)
 all_goals conv=>whnf
 ·rename_i hr;rw[hr];refine aV aa rfl (fun s:Nat×cD=>[(1,.ptr 0 0),(2,.ptr 1 0),(3,bA false),(4,.ptr 2 0),(11,iA (s.1:Nat))]) (fun s=>[.cells [iA x0,iA y0,iA x1,iA y1] 76,.cells [iA 0,iA 0,iA 0] 232,.cells [iA s.2.l,iA s.2.x,iA s.2.y] 232])
   (fun s=>s.1<=17/\vA x0 y0 x1 y1 (17 - s.1) s.1 s.2=FY x0 y0 x1 y1) (fun s=>17 - s.1) (0,⟨0,0,0⟩) ⟨by omega,rfl⟩ [0,1,2] ?_ ?_
  ·exact ⟨rfl,⟨rr,rr,rr,rr,rr,tU⟩,⟨⟨_,rfl,rfl⟩,⟨_,rfl,rfl⟩,⟨_,rfl,rfl⟩,tU⟩⟩
  ·rintro ⟨l,h⟩ ⟨hl,hh⟩;simp only[] at hl hh;by_cases hk:l<17
   ·conv=>whnf
    refine af (fun _=>?_) (fun h0=>absurd h0 (by simp;omega));repeat' ((conv=>whnf);first|with_reducible apply af<;>intro _|refine aM.drawn aa rfl rfl ?_|with_reducible refine And.intro (aN.mk ⟨_,rfl,rfl⟩) ?_|refine YU (l:=l) (by omega) (by omega) ?_|refine ag aa rfl ?_)
    all_goals conv=>whnf
    all_goals
     rename_i hc
     rw[Hr] at hc
     rw[show 17 - l=(16 - l)+1 by omega] at hh
     simp only[vA] at hh
    ·have hc:¬vL x1 y1 l=vL x0 y0 l:=by simpa using hc
     rw[if_neg hc] at hh;rw[<-hh];rfl
    ·have hc:vL x1 y1 l=vL x0 y0 l:=by simpa using hc
     rw[if_pos hc] at hh;exact ⟨(l+1,vL x0 y0 l),[0,1,2],⟨⟨by show l+1<=17;omega,by show vA x0 y0 x1 y1 (17 - (l+1)) (l+1) _=_;rw[<-hh,show 17 - (l+1)=16 - l by omega]⟩,by show 17 - (l+1)<17 - l;omega⟩,rfl,⟨rr,rr,rr,rr,⟨rfl,ax rfl (ak (by omega) (by omega))⟩,tU⟩,⟨⟨_,rfl,rfl⟩,⟨_,rfl,rfl⟩,⟨_,rfl,rfl⟩,tU⟩⟩
   ·conv=>whnf
    refine af (fun h0=>absurd h0 (by simp;omega)) (fun _=>?_);repeat' ((conv=>whnf);first|with_reducible apply af<;>intro _|refine aM.drawn aa rfl rfl ?_|with_reducible refine And.intro (aN.mk ⟨_,rfl,rfl⟩) ?_|refine ag aa rfl ?_)
    conv=>whnf
    obtain rfl:l=17:=by omega
    rw[<-hh];rfl
 ·rename_i hr;rw[hr];rfl
end
