/- Part of the proof: SyN SyO Rdr Rdr2 Rdr3. Conditions: as each states. -/
import Derived.Test.YtmbdghclhpboaaaGreatPb36
set_option linter.all false
set_option maxRecDepth 100000
namespace Go.Proofs.YtmbdghclhpboaaaGreat.Ev
open Go.RowKit
structure RdP(E:Env)(P:Program)(t:Tmps)(H:List AObj)(op:Op)(K:AV→Prop):Prop where
 out:∃v,(∀(F:Frz) (γ:Gam) (w:World) (a:Act),RelL F γ (hp H) w→Rs F γ H w→OpRel γ t a.eval→∀o:Oper,o.op=op→∃x,(execOp a.eval o).run P w=.ok (.value x) w∧Conc γ v x)∧K v
section
variable{P:Program}{E:Env}(hE:EnvOk P E){t:Tmps}{H:List AObj}{K:AV→Prop}
include hE
theorem RdP.pure{op:Op}{v:AV}(h:evOp E t (hp H) op=some (.pure v))(k:K v):RdP E P t H op K:=⟨v,fun F γ w a hR _ hρ o ho=>by
 subst ho
 exact val_ok hE hR.toRel hρ o h (.inl rfl),k⟩
theorem RdP.read{op:Op}{v:AV}(h:evOp E t (hp H) op=some (.read v))(k:K v):RdP E P t H op K:=⟨v,fun F γ w a hR _ hρ o ho=>by
 subst ho
 exact val_ok hE hR.toRel hρ o h (.inr rfl),k⟩
theorem RdP.idxL{ty elem:TypeId}{r er:TyRow}{x i:Operand}{a:Addr}{n k:Nat}{c:Nat}(hr:E.ty ty=some r)(hu:r.und=.slice elem)(he:E.ty elem=some er)(hx:opnd t x=some (.lit (.slice (some a) n c)))(hi:opnd t i=some (.lit (.int .i64 (k:Int))))(hk:k<n)(h:K (.lit (.pointer (some (a.add (k * er.info.size)))))):RdP E P t H (.indexAddr ty x i) K:=
 ⟨_,fun F γ w ac hR _ hρ o ho=>by
  have h1:=hρ x _ hx
  have h2:=hρ i _ hi
  rw[conc_lit_iff] at h1 h2
  refine ⟨.pointer (some (a.add (k * er.info.size))),?_,conc_lit γ _⟩
  obtain ⟨dst,op,type,pos,after,guard⟩:=o
  simp only[] at ho
  subst ho
  simp only[execOp]
  refine run_v ?_
  rw[h1,h2]
  unfold Instr.indexAt
  have hin:(0≤(k:Int)∧(k:Int)<(n:Int)):=⟨by omega,by omega⟩
  simp only[asIntOf,Instr.sureAddr,Sem.run_bind,run_und hE hr w,Result.andThen_ok,hu,Sem.run_pure,hin,and_self,if_true,run_size hE he w,Int.toNat_natCast],h⟩
omit hE in
theorem RdP.loadR{ty:TypeId}{ad:Operand}{a:Addr}{i:Nat}{R:Res}{x:Value}{v:AV}(hi:H[i]?=some (.res R))(hl:∀w S,R.at_ w S→(loadVar ty a).run P w=.ok x w)(hx:opnd t ad=some (.lit (.pointer (some a))))(hv:v.flat=some x)(h:K v):RdP E P t H (.load ty ad) K:=
 ⟨v,fun F γ w ac hR hrs hρ o ho=>by
  have h1:=hρ ad _ hx
  rw[conc_lit_iff] at h1
  obtain ⟨T,hT,_⟩:=hrs.out
  have hti:(rss H)[i]?=some R:=by unfold rss;rw[List.getElem?_map,hi];rfl
  obtain ⟨S1,S2,b1,_,_,_⟩:=stars_at hT hti
  refine ⟨x,?_,conc_flat v x hv⟩
  obtain ⟨dst,op,type,pos,after,guard⟩:=o
  simp only[] at ho
  subst ho
  simp only[execOp]
  refine run_v ?_
  rw[h1]
  simp only[Instr.loadAt,Instr.sureAddr,Sem.run_bind,Sem.run_pure,Result.andThen_ok,hl w S1 b1],h⟩
end
def rdsK(E:Env)(P:Program)(nt:Nat)(ops:List Oper)(H:List AObj):List Oper→Tmps→(Tmps→Prop)→Prop
 | [],t,K=>K t
 | o::rest,t,K=>match wantedA ops t o with
   | none=>False
   | some false=>putK nt o.dst t undefV fun t'=>rdsK E P nt ops H rest t' K
   | some true=>RdP E P t H o.op (fun v=>fv v fun v=>putK nt o.dst t v fun t'=>rdsK E P nt ops H rest t' K)
section
variable{P:Program}{E:Env}(hE:EnvOk P E)
include hE
omit hE in
theorem rdsK_ok{nt:Nat}(hn:nt≤lim){ops:Array Oper}{H:List AObj}{F:Frz}{γ:Gam}{w:World}(hR:Rl F γ H w){K:Tmps→Prop}{Q:Act→Prop}(hK:∀t a,K t→ConcT γ nt t a→Q a) :
  ∀(l:List Oper) (t:Tmps) (a:Act),rdsK E P nt ops.toList H l t K→ConcT γ nt t a→wpStill P ops w Q l a
 | [],t,a,h,hT=>hK t a h hT
 | o::rest,t,a,h,hT=>by
   simp only[rdsK] at h
   simp only[wpStill]
   cases hw:wantedA ops.toList t o with
   | none=>rw[hw] at h;exact h.elim
   | some b=>
     rw[hw] at h
     have hwant:=wanted_ok (a:=a) (γ:=γ) (n:=nt) hw fun d u _ hu=>hT.get d u hu
     cases b with
     | false=>
       rw[hwant]
       obtain ⟨t1,hp1,hk⟩:=putK_ok h
       exact rdsK_ok hn hR hK rest t1 _ hk (put_ok hT hp1 hn (conc_lit γ _))
     | true=>
       rw[hwant]
       obtain ⟨v,hv,hk⟩:=h.out
       obtain ⟨x,h1,h2⟩:=hv F γ w a hR.rel hR.rs hT.opnd o rfl
       obtain ⟨t1,hp1,hk⟩:=putK_ok (fv_ok hk)
       simp only[if_true,Oper.still,h1,Oper.stillUpon_value]
       exact rdsK_ok hn hR hK rest t1 _ hk (put_ok hT hp1 hn h2)
theorem tail_ok{n:Nat}(hn:n≤lim){ops:Array Oper}{Q:Exit→Act→World→Prop}{L:Tmps→List AObj→Prop}:∀(l:List Oper) (i:Nat) (t:Tmps) (H:List AObj) (γ:Gam) (F:Frz) (w:World) (a:Act),
  wpOps E P n ops.toList l t H L→ops.toList.drop i=l→Rl F γ H w→ConcT γ n t a →
  (∀t' H' γ' a' w',L t' H'→Rl F γ' H' w'→ConcT γ' n t' a'→Ext γ γ'→Q .normal a' w')→wpList P ops Q l a w
 | [],i,t,H,γ,F,w,a,h,hd,hR,hT,hQ=>hQ t H γ a w h hR hT (.refl γ)
 | o::rest,i,t,H,γ,F,w,a,h,hd,hR,hT,hQ=>by
   have hi:ops[i]?=some o:=by
    have h1:ops.toList[i]?=some o:=by
     have:(ops.toList.drop i)[0]?=some o:=by rw[hd];rfl
     rw[List.getElem?_drop] at this
     simpa using this
    simpa using h1
   have hrest:ops.toList.drop (i+1)=rest:=by
    have:=congrArg List.tail hd
    simpa [List.tail_drop] using this
   simp only[wpOps] at h
   have hw:wpOp P ops Q i (wpList P ops Q rest) a w:=stepK_ok hE h hi hR hT fun v H1 γ1 x w1 hk hR1 hx hS1=>by
    obtain ⟨t1,hp,hk⟩:=putK_ok (fv_ok hk)
    exact tail_ok hn rest (i+1) t1 H1 γ1 F w1 _ hk hrest hR1 (put_ok (hT.mono hS1) hp hn hx) fun t' H' γ' a' w' h1 h2 h3 h4=>hQ t' H' γ' a' w' h1 h2 h3 (hS1.trans h4)
   unfold wpOp at hw
   simp only[hi] at hw
   exact hw
theorem WpS.tail{id nt k:Nat}{l:List Oper}{t:Tmps}{H:List AObj}{Q:AExit→Tmps→List AObj→Prop}(n:Nat)(hn:Nat.ble nt lim=true)(hB:Region.lexTailB .any l.toArray n=true)
  (h:rdsK E P nt l H (l.take n) t (fun t'=>wpOps E P nt l (l.drop n) t' H (fun t H=>Q .normal t H))):WpS P nt k (.region id l.toArray true) t H Q:=⟨fun F γ w a R hR hT hQ=>by
 have hn:=Nat.le_of_ble_eq_true hn
 refine wp_region_still_tail n hE.wide hB ?_
 obtain ⟨T,hT1,hT2⟩:=hR.rs.out
 have hR1:Rl F γ H { w with drawn:=w.drawn+1 }:=⟨hR.rel.heap rfl,hR.pl,⟨T,stars_keep hT1 fun b _=>rfl,hT2⟩⟩
 refine rdsK_ok hn (ops:=l.toArray) hR1 (K:=fun t'=>wpOps E P nt l (l.drop n) t' H (fun t H=>Q .normal t H)) (fun t' a' hk hT'=>?_) (l.take n) t a h hT
 exact tail_ok hE hn (ops:=l.toArray) (l.drop n) n t' H γ F _ a' hk (by simp) hR1 hT' fun t2 H2 γ2 a2 w2 h1 h2 h3 h4=>hQ .normal t2 H2 γ2 a2 w2 h1 h2 h3 (.of_ext h4 k)⟩
end
section
variable{P:Program}{E:Env}(hE:EnvOk P E){S:List Nat}{t:Tmps}{H:List AObj}{K:AV→List AObj→Prop}
include hE
theorem OpP.slLo{ty elem:TypeId}{r er:TyRow}{x lo:Operand}{A:Option Addr}{n c j:Nat}{q:IntKind}(hr:E.ty ty=some r)(hu:r.und=.slice elem)(he:E.ty elem=some er)(hx:opnd t x=some (.lit (.slice A n c)))(hl:opnd t lo=some (.lit (.int q (j:Int))))(hj:j≤n)(h:K (.lit (.slice (cutA A c j er.info.size) (n - j) (c - j))) H):OpP E P true S t H (.slice ty x (some lo) none none) K:=
 ⟨.inr ⟨rfl,⟨fun F γ w ρ hR hpl hrs hρ o ho=>by
  have h1:=hρ x _ (by simp[Op.operands]) hx
  have h2:=hρ lo _ (by simp[Op.operands]) hl
  rw[conc_lit_iff] at h1 h2
  refine ⟨_,H,γ,.value (.slice (cutA A c j er.info.size) (n - j) (c - j)),w,?_,.inl ⟨_,rfl,conc_lit γ _⟩,h,hR,.refl γ _,hpl,hrs⟩
  obtain ⟨dst,op,type,pos,after,guard⟩:=o
  simp only[] at ho
  subst ho
  simp only[execOp]
  refine run_v ?_
  simp only[Option.map_some,Option.map_none,h1,h2]
  have hun:(underlying ty).run P w=.ok (.slice elem) w:=by rw[run_und hE hr w,hu]
  unfold Instr.sliceAt
  simp only[Sem.run_bind,hun,Result.andThen_ok]
  exact run_slice_lo (by rw[hE.und ty r hr,hu]) (fun w=>run_size hE he w) w A n c j q hj⟩⟩⟩
theorem OpP.slHm{ty elem:TypeId}{r er:TyRow}{x hi mx:Operand}{b off n c j:Nat}{q q':IntKind}(hr:E.ty ty=some r)(hu:r.und=.slice elem)(he:E.ty elem=some er)(hx:opnd t x=some (.lit (.slice (some ⟨b,off,none⟩) n c)))(hh:opnd t hi=some (.lit (.int q (j:Int))))(hm:opnd t mx=some (.lit (.int q' (j:Int))))(hj:j≤c)(h:K (.lit (.slice (some ⟨b,off,none⟩) j j)) H):OpP E P true S t H (.slice ty x none (some hi) (some mx)) K:=
 ⟨.inr ⟨rfl,⟨fun F γ w ρ hR hpl hrs hρ o ho=>by
  have h1:=hρ x _ (by simp[Op.operands]) hx
  have h2:=hρ hi _ (by simp[Op.operands]) hh
  have h3:=hρ mx _ (by simp[Op.operands]) hm
  rw[conc_lit_iff] at h1 h2 h3
  refine ⟨_,H,γ,.value (.slice (some ⟨b,off,none⟩) j j),w,?_,.inl ⟨_,rfl,conc_lit γ _⟩,h,hR,.refl γ _,hpl,hrs⟩
  obtain ⟨dst,op,type,pos,after,guard⟩:=o
  simp only[] at ho
  subst ho
  simp only[execOp]
  refine run_v ?_
  simp only[Option.map_some,Option.map_none,h1,h2,h3]
  have hb:(0:Int)≤(j:Int)∧(j:Int)≤(c:Int):=⟨by omega,by omega⟩
  have hb2:(0:Int)≤(j:Int)∧(j:Int)≤(j:Int):=⟨by omega,by omega⟩
  have hsz:(sizeOf elem).run P w=.ok er.info.size w:=run_size hE he w
  have hun:(underlying ty).run P w=.ok (.slice elem) w:=by rw[run_und hE hr w,hu]
  unfold Instr.sliceAt
  simp only[Sem.run_bind,hun,Result.andThen_ok]
  unfold Instr.slice
  simp only[Instr.sliceBounds,Instr.sliceBound,asIntOf,Sem.run_bind,hun,Result.andThen_ok,Sem.run_pure,if_true,hb,hb2,and_self,Int.toNat_natCast,hsz,Nat.zero_mul,Option.map_some,Nat.sub_zero,Addr.add_mid,Nat.add_zero,ite_self]⟩⟩⟩
end
end Go.Proofs.YtmbdghclhpboaaaGreat.Ev
namespace Go.Proofs.YtmbdghclhpboaaaGreat
open Ev
abbrev tRd:TypeId:=101
structure ByR(R:Res)(b off c:Nat)(l:List UInt8):Prop where
 cap:l.length≤c
 lay:∀w S,R.at_ w S→Lay w b off (l.flatMap byC)
theorem ByR.drop{R:Res}{b off c n:Nat}{l:List UInt8}(h:ByR R b off c l)(hn:n≤l.length):ByR R b (off+n) (c - n) (l.drop n):=
 ⟨by rw[List.length_drop];have:=h.cap;omega,fun w S hw=>by
  have h1:=(h.lay w S hw).drop (n * 1)
  rw[flat_drop byC_len,Nat.mul_one] at h1
  exact h1⟩
theorem ByR.take{R:Res}{b off c n:Nat}{l:List UInt8}(h:ByR R b off c l)(hn:n≤l.length):ByR R b off n (l.take n):=
 ⟨by rw[List.length_take];omega,fun w S hw=>by
  have h1:=(h.lay w S hw).take (n * 1)
  rw[flat_take byC_len] at h1
  exact h1⟩
structure Rst where
 A:Option Addr
 c:Nat
 l:List UInt8
 bad:Bool
structure Rst.Ok(R:Res)(s:Rst):Prop where
 nil:s.A=none→s.l=[]∧s.c=0
 lie:∀a,s.A=some a→∃b off,a=⟨b,off,none⟩∧ByR R b off s.c s.l
def rdG(s:Rst):AObj:=.cells [.lit (.slice s.A s.l.length s.c),bA s.bad] tRd
def Rst.take(n:Nat)(s:Rst):Rst:=if n≤s.l.length then ⟨cutA s.A s.c n 1,s.c - n,s.l.drop n,s.bad⟩ else ⟨none,0,[],true⟩
def takeV(n:Nat)(s:Rst):Value:=if n≤s.l.length then .slice s.A n n else .slice none 0 0
theorem byR_none{R:Res}{b off c:Nat}:ByR R b off c []:=⟨Nat.zero_le _,fun w S hw j u hj=>by simp at hj⟩
theorem Rst.Ok.take{R:Res}{s:Rst}(h:s.Ok R)(n:Nat):(s.take n).Ok R:=by
 unfold Rst.take
 split
 ·rename_i hn
  cases hA:s.A with
  | none=>
    obtain ⟨h1,h2⟩:=h.nil hA
    refine ⟨fun _=>⟨by rw[h1,List.drop_nil],by rw[h2,Nat.zero_sub]⟩,fun a ha=>?_⟩
    simp only[cutA,Option.map_none,ite_self] at ha
    cases ha
  | some a=>
    obtain ⟨b,off,rfl,h1⟩:=h.lie a hA
    have hcap:=h1.cap
    by_cases hc:s.c=n
    ·have hd:s.l.drop n=[]:=List.drop_of_length_le (by omega)
     have e:cutA (some ⟨b,off,none⟩) s.c n 1=some ⟨b,off,none⟩:=by unfold cutA;rw[if_pos hc]
     rw[e,hd]
     refine ⟨fun h=>by (simp only[] at h;cases h),fun a ha=>?_⟩
     simp only[Option.some.injEq] at ha
     exact ⟨b,off,ha.symm,byR_none⟩
    ·have e:cutA (some ⟨b,off,none⟩) s.c n 1=some ⟨b,off+n,none⟩:=by
      unfold cutA
      rw[if_neg hc,Nat.mul_one,Option.map_some,Addr.add_mid]
     rw[e]
     refine ⟨fun h=>by (simp only[] at h;cases h),fun a ha=>?_⟩
     simp only[Option.some.injEq] at ha
     exact ⟨b,off+n,ha.symm,h1.drop hn⟩
 ·exact ⟨fun _=>⟨rfl,rfl⟩,fun a ha=>by simp only[] at ha;cases ha⟩
theorem rtake{R:Res}{s:Rst}(h:s.Ok R)(n:Nat):CP [] 109 [.ptr 0 0,iA n] [rdG s] (fun v H'=>v=.lit (takeV n s)∧∃G,H'=rdG (s.take n)::G):=by
 obtain ⟨A,c,l,bad⟩:=s
 have hnil:=h.nil
 have hlie:=h.lie
 simp only[] at hnil hlie
 by_cases hn:n≤l.length
 ·have e1:takeV n ⟨A,c,l,bad⟩=.slice A n n:=if_pos hn
  have e2:Rst.take n ⟨A,c,l,bad⟩=⟨cutA A c n 1,c - n,l.drop n,bad⟩:=if_pos hn
  rw[e1,e2]
  show CP [] _ _ [.cells [.lit (.slice A l.length c),bA bad] tRd] _
  cases A with
  | none=>
    obtain ⟨rfl,rfl⟩:=hnil rfl
    obtain rfl:n=0:=by simpa using hn
    refine fn_ok ev_ok rfl ?_
    repeat' ((conv=>whnf);first|with_reducible apply brP_of<;>intro _|refine OpP.ev ⟨_,rfl,?_⟩)
    all_goals (try conv=>whnf)
    exact ⟨rfl,[],rfl⟩
  | some a=>
    obtain ⟨b,off,rfl,h1⟩:=hlie a rfl
    refine fn_ok ev_ok rfl ?_
    repeat' ((conv=>whnf);first|with_reducible apply brP_of<;>intro _|refine OpP.slHm ev_ok rfl rfl rfl rfl rfl rfl (Nat.le_trans hn h1.cap) ?_|refine OpP.slLo ev_ok rfl rfl rfl rfl rfl hn ?_)
    all_goals (try conv=>whnf)
    ·rename_i hx
     have:=of_decide_eq_true hx
     omega
    ·refine ⟨rfl,[],?_⟩
     show [AObj.cells [AV.lit (Value.slice (cutA (some ⟨b,off,none⟩) c n 1) (l.length - n) (c - n)),bA bad] tRd]=_
     unfold rdG
     rw[List.length_drop]
 ·have e1:takeV n ⟨A,c,l,bad⟩=.slice none 0 0:=if_neg hn
  have e2:Rst.take n ⟨A,c,l,bad⟩=⟨none,0,[],true⟩:=if_neg hn
  rw[e1,e2]
  show CP [] _ _ [.cells [.lit (.slice A l.length c),bA bad] tRd] _
  refine fn_ok ev_ok rfl ?_
  repeat' ((conv=>whnf);first|with_reducible apply brP_of<;>intro _|(exfalso;rename_i hx;have:=of_decide_eq_false hx;omega))
  all_goals (try conv=>whnf)
  exact ⟨rfl,[],rfl⟩
theorem nget{R:Res}{b off n:Nat}{l:List UInt8}{S:List Nat}{H:List AObj}{K:AV→List AObj→Prop}(i:Nat)(hi:H[i]?=some (.res R))(hl:l.length=n)(h:ByR R b off n l)(h0:0<n)(h8:n≤8)(k:K (.tuple [uA (beNat l:Nat),iA 0]) H):CP S 271 [.lit (.slice (some ⟨b,off,none⟩) n n)] H K:=by
 subst hl
 refine CallS.of_callsR ev_ok rfl i hi rfl (x:=.tuple #[.int .u64 (beNat l:Nat),.int .i64 0]) (fun w T hw=>?_) k
 have hlay:=h.lay w T hw
 have hb:b<w.heap.size:=lay_lt hlay (fun e=>by
  have:=congrArg List.length e
  rw[flat_len byC_len] at this
  simp only[List.length_nil] at this
  omega)
 refine (get_ok l (.slice (some ⟨b,off,none⟩) l.length l.length) w w.heap.size ⟨_,_,rfl,Nat.le_refl _,by unfold maxLen;omega,fun _=>⟨b,off,rfl,hb,hlay⟩⟩ h8 h0).mono ?_
 rintro e w' ⟨rfl,rfl⟩
 exact ⟨rfl,Go.RowKit.Below.refl _ _⟩
theorem nget0{S:List Nat}{H:List AObj}{K:AV→List AObj→Prop}(k:K (.tuple [uA 0,iA 1]) H):CP S 271 [.lit nilV] H K:=by
 refine CallS.pure ?_ (fun _=>rfl) (fun _=>rfl) k
 refine fn_ok ev_ok rfl ?_
 repeat' ((conv=>whnf);with_reducible apply brP_of<;>intro _)
 all_goals (try conv=>whnf)
 all_goals rfl
def Rst.long(k:Nat)(s:Rst):Nat×Rst:=(if k≤s.l.length then beNat (s.l.take k) else 0,s.take k)
def Rst.num(k:Nat)(s:Rst):Nat×Rst:=if 4611686018427387903<(s.long k).1 then (0,{ (s.long k).2 with bad:=true }) else s.long k
theorem Rst.num_le(k:Nat)(s:Rst):(s.num k).1≤4611686018427387903:=by
 unfold Rst.num
 split
 ·exact Nat.zero_le _
 ·omega
theorem Rst.Ok.num{R:Res}{s:Rst}(h:s.Ok R)(k:Nat):(s.num k).2.Ok R:=by
 unfold Rst.num
 split
 ·exact ⟨(h.take k).nil,(h.take k).lie⟩
 ·exact h.take k
theorem rlong{R:Res}{s:Rst}{k:Nat}(h:s.Ok R)(h1:1≤k)(h8:k≤8):CP [] 183 [.ptr 0 0,iA k] [rdG s,.res R] (fun v H'=>v=uA ((s.long k).1:Nat)∧∃G,H'=rdG (s.long k).2::.res R::G):=by
 have ht:=rtake h k
 show CP [] _ _ _ (fun v H'=>v=uA ((s.long k).1:Nat)∧∃G,H'=rdG (s.take k)::.res R::G)
 obtain ⟨s',hs'⟩:∃s',s'=s.take k:=⟨_,rfl⟩
 rw[←hs'] at ht ⊢
 by_cases hn:k≤s.l.length
 ·have e1:takeV k s=.slice s.A k k:=if_pos hn
  have e2:(s.long k).1=beNat (s.l.take k):=if_pos hn
  have hA:s.A≠none:=fun e=>by
   have:=(h.nil e).1
   rw[this] at hn
   simp only[List.length_nil] at hn
   omega
  obtain ⟨a,ha⟩:=Option.ne_none_iff_exists'.1 hA
  obtain ⟨b,off,rfl,hb⟩:=h.lie a ha
  have hl:(s.l.take k).length=k:=by rw[List.length_take];omega
  rw[e1,ha] at ht
  rw[e2]
  refine fn_ok ev_ok rfl ?_
  repeat' ((conv=>whnf);first|with_reducible apply brP_of<;>intro _|(refine ht.use [0] rfl rfl ⟨⟨_,rfl,rfl⟩,tU⟩ ?_;rintro _ _ ⟨rfl,G,rfl⟩;refine ⟨[],?_⟩)|refine nget 1 rfl hl (hb.take hn) (by omega) h8 ?_)
  all_goals (try conv=>whnf)
  exact ⟨rfl,_,rfl⟩
 ·have e1:takeV k s=.slice none 0 0:=if_neg hn
  have e2:(s.long k).1=0:=if_neg hn
  rw[e1] at ht
  rw[e2]
  refine fn_ok ev_ok rfl ?_
  repeat' ((conv=>whnf);first|with_reducible apply brP_of<;>intro _|(refine ht.use [0] rfl rfl ⟨⟨_,rfl,rfl⟩,tU⟩ ?_;rintro _ _ ⟨rfl,G,rfl⟩;refine ⟨[],?_⟩)|refine nget0 ?_)
  all_goals (try conv=>whnf)
  exact ⟨rfl,_,rfl⟩
theorem long_lt{s:Rst}{k:Nat}(h8:k≤8):(s.long k).1<18446744073709551616:=by
 unfold Rst.long
 simp only[]
 split
 ·have h:=beNat_lt _ (s.l.take k) rfl
  have h2:256 ^ (s.l.take k).length≤256 ^ 8:=Nat.pow_le_pow_right (by omega) (by rw[List.length_take];omega)
  have h3:256 ^ 8=18446744073709551616:=by decide
  omega
 ·omega
theorem rnumber{R:Res}{s:Rst}{k:Nat}(h:s.Ok R)(h1:1≤k)(h8:k≤8):CP [] 103 [.ptr 0 0,iA k] [rdG s,.res R] (fun v H'=>v=iA ((s.num k).1:Nat)∧∃G,H'=rdG (s.num k).2::.res R::G):=by
 have hl:=rlong h h1 h8
 obtain ⟨p,hp⟩:∃p,p=s.long k:=⟨_,rfl⟩
 have e1:s.num k=if 4611686018427387903<p.1 then (0,{ p.2 with bad:=true }) else p:=by rw[hp];rfl
 rw[e1]
 rw[←hp] at hl
 clear e1 hp
 obtain ⟨m,s'⟩:=p
 simp only[] at hl ⊢
 refine fn_ok ev_ok rfl ?_
 repeat' ((conv=>whnf);first|with_reducible apply brP_of<;>intro _|(refine hl.use [0,1] rfl rfl ⟨⟨_,rfl,rfl⟩,⟨_,rfl,kp⟩,tU⟩ ?_;rintro _ _ ⟨rfl,G,rfl⟩;refine ⟨[],?_⟩))
 all_goals (try conv=>whnf)
 ·rename_i hx
  have:=of_decide_eq_true hx
  rw[if_pos (by omega)]
  exact ⟨rfl,_,rfl⟩
 ·rename_i hx
  have:=of_decide_eq_false hx
  rw[if_neg (by omega)]
  have e:IntKind.i64.wrap (m:Int)=(m:Int):=wrap_in (by omega) (by omega)
  rw[e]
  exact ⟨rfl,_,rfl⟩
theorem setFrom_one{l:List AV}{j:Nat}{v:AV}(h:j<l.length):setFrom l j [v]=l.set j v:=by
 unfold setFrom
 rw[List.set_eq_take_append_cons_drop,if_pos h,List.append_assoc]
 rfl
theorem fl_of{α:Type}:∀{l:List α} {K:List α→Prop},K l→fl l K
 | [],_,h=>h
 | a::l,K,h=>fl_of (l:=l) (K:=fun l'=>K (a::l')) h
theorem fl_set{l:List AV}{j:Nat}{v:AV}{K:List AV→Prop}(hv:v.cells=[v])(h:j<l.length)(k:K (l.set j v)):fl (setFrom l j v.cells) K:=by
 refine fl_of ?_
 rw[hv,setFrom_one h]
 exact k
theorem rens_map(g:Nat→Nat):∀l:List AV,AV.rens g l=l.map (AV.ren g)
 | []=>rfl
 | a::l=>by rw[AV.rens,rens_map g l];rfl
theorem obFix{l l':List AV}{T:TypeId}{g:Nat→Nat}(e:l=l')(h:∀g,l'.map (AV.ren g)=l'):ObE (.cells l T) ((AObj.cells l' T).ren g):=by
 subst e
 show vw (.cells l T)=vw (.cells (AV.rens g l) T)
 rw[rens_map,h]
def Rst.nums(k:Nat):Nat→Rst→List Nat×Rst
 | 0,s=>([],s)
 | i+1,s=>((s.nums k i).1++[((s.nums k i).2.num k).1],((s.nums k i).2.num k).2)
theorem Rst.nums_len(k:Nat)(s:Rst):∀i,(s.nums k i).1.length=i
 | 0=>rfl
 | i+1=>by rw[Rst.nums];simp[Rst.nums_len k s i]
theorem Rst.Ok.nums{R:Res}{s:Rst}(h:s.Ok R)(k:Nat):∀i,(s.nums k i).2.Ok R
 | 0=>h
 | i+1=>(Rst.Ok.nums h k i).num k
def setL(cs:List AV):List Nat→List Nat→List AV
 | i::is,x::xs=>setL (cs.set i (iA (x:Nat))) is xs
 | _,_=>cs
theorem setL_len:∀(is xs:List Nat) (cs:List AV),(setL cs is xs).length=cs.length
 | [],_,_=>by unfold setL;rfl
 | _::_,[],_=>rfl
 | i::is,x::xs,cs=>by rw[setL,setL_len is xs,List.length_set]
theorem setL_snoc:∀(is xs:List Nat) (cs:List AV) (x:Nat) (h:xs.length<is.length),setL cs is (xs++[x])=(setL cs is xs).set is[xs.length] (iA (x:Nat))
 | [],_,_,_,h=>by simp at h
 | i::is,[],cs,x,_=>by cases is<;>rfl
 | i::is,y::xs,cs,x,h=>by
   rw[List.cons_append,setL,setL,setL_snoc is xs _ x (by simpa using h)]
   rfl
theorem setL_ren{cs:List AV}{is:List Nat}:∀(is xs:List Nat) (cs:List AV) (_:∀g,cs.map (AV.ren g)=cs) (g:Nat→Nat),(setL cs is xs).map (AV.ren g)=setL cs is xs
 | [],_,cs,h,g=>by unfold setL;exact h g
 | _::_,[],cs,h,g=>h g
 | i::is,x::xs,cs,h,g=>by
   rw[setL]
   refine setL_ren (cs:=cs) (is:=is) is xs _ (fun g=>?_) g
   rw[List.map_set,h g]
   rfl
theorem obPtr{is:List Nat}{P:TypeId}:ObE (.cells (is.map (AV.ptr 2)) P) ((AObj.cells (is.map (AV.ptr 2)) P).ren (gOf [0,1,2,3])):=by
 show vw (.cells (is.map (AV.ptr 2)) P)=vw (.cells (AV.rens (gOf [0,1,2,3]) (is.map (AV.ptr 2))) P)
 rw[rens_map,List.map_map]
 rfl
theorem rinto{R:Res}{s:Rst}{k:Nat}{is:List Nat}{cs:List AV}{T P:TypeId}(h:s.Ok R)(h1:1≤k)(h8:k≤8)(hm:is.length≤1000)(hj:∀j∈is,j<cs.length)(hc:∀g,cs.map (AV.ren g)=cs):CP [] 102 [.ptr 0 0,iA k,.slice 3 0 is.length (.k is.length)] [rdG s,.res R,.cells cs T,.cells (is.map (AV.ptr 2)) P] (fun u H'=>u=undefV∧∃G,H'=rdG (s.nums k is.length).2::.res R::.cells (setL cs is (s.nums k is.length).1) T::.cells (is.map (AV.ptr 2)) P::G):=by
 refine fn_ok ev_ok rfl ?_
 conv=>whnf
 refine loopP ev_ok rfl (fun i:Nat=>[(0,.ptr 0 0),(1,iA k),(8,.slice 3 0 is.length (.k is.length)),(9,iA is.length),(10,iA (i:Nat))]) (fun i=>[rdG (s.nums k i).2,.res R,.cells (setL cs is (s.nums k i).1) T,.cells (is.map (AV.ptr 2)) P])
  (fun i=>i≤is.length) (fun i=>is.length - i) 0 (Nat.zero_le _) [0,1,2,3] ?_ ?_
 ·exact ⟨rfl,⟨⟨rfl,rfl⟩,⟨rfl,rfl⟩,⟨rfl,rfl⟩,⟨rfl,rfl⟩,⟨rfl,rfl⟩,tU⟩,⟨⟨_,rfl,rfl⟩,⟨_,rfl,kp⟩,⟨_,rfl,obFix (by cases is<;>rfl) (fun g=>by (show (setL cs is []).map _=setL cs is [];exact setL_ren (cs:=cs) (is:=is) _ _ _ hc g))⟩,⟨_,rfl,obPtr⟩,tU⟩⟩
 ·intro i hi0
  have hlen:(s.nums k i).1.length=i:=Rst.nums_len k s i
  have hok:=Rst.Ok.nums h k i
  obtain ⟨p,hp⟩:∃p,p=s.nums k i:=⟨_,rfl⟩
  by_cases hi:i<is.length
  ·have hget:(is.map (AV.ptr 2))[0+i * 1]?=some (.ptr 2 is[i]):=by simp[hi]
   have hji:is[i]<(setL cs is p.1).length:=by rw[setL_len];exact hj _ (List.getElem_mem hi)
   have hble:Nat.ble (is[i]+1) (setL cs is p.1).length=true:=Nat.ble_eq_true_of_le hji
   have hs1:s.nums k (i+1)=(p.1++[(p.2.num k).1],(p.2.num k).2):=by rw[hp];rfl
   rw[←hp] at hlen hok ⊢
   have hnum:=rnumber hok h1 h8
   clear hp
   obtain ⟨xs,s1⟩:=p
   simp only[] at hlen hok hji hble hs1 hnum ⊢
   obtain ⟨q,hq⟩:∃q,q=s1.num k:=⟨_,rfl⟩
   rw[←hq] at hnum hs1
   clear hq
   obtain ⟨x,s2⟩:=q
   simp only[] at hnum hs1
   conv=>whnf
   refine brP_of (fun _=>?_) (noF hi)
   repeat' ((conv=>whnf);first|with_reducible apply brP_of<;>intro _|refine IdxP.of (k:=i) rfl hi ?_|rw[hget]|(refine hnum.use [0,1] rfl rfl ⟨⟨_,rfl,rfl⟩,⟨_,rfl,kp⟩,tU⟩ ?_;rintro _ _ ⟨rfl,G,rfl⟩;refine ⟨[],?_⟩)|refine fl_set rfl hji ?_|rw[hble])
   all_goals (try conv=>whnf)
   refine ⟨i+1,[0,1,2,3],⟨hi,by show is.length - (i+1)<is.length - i;omega⟩,rfl,⟨⟨rfl,rfl⟩,⟨rfl,rfl⟩,⟨rfl,rfl⟩,⟨rfl,rfl⟩,⟨rfl,subInt rfl (wrap_in (by omega) (by omega))⟩,tU⟩,⟨⟨_,rfl,by rw[hs1];rfl⟩,⟨_,rfl,kp⟩,⟨_,rfl,?_⟩,⟨_,rfl,obPtr⟩,tU⟩⟩
   rw[hs1]
   refine obFix ?_ (fun g=>setL_ren (cs:=cs) (is:=is) _ _ _ hc g)
   rw[setL_snoc _ _ _ _ (by omega)]
   simp only[hlen]
  ·obtain rfl:i=is.length:=by omega
   conv=>whnf
   refine brP_of (noT hi) (fun _=>?_)
   repeat' ((conv=>whnf);with_reducible apply brP_of<;>intro _)
   all_goals (try conv=>whnf)
   exact ⟨rfl,[],rfl⟩
theorem rlongE{R:Res}{s:Rst}{k:Nat}(h:s.Ok R)(h1:1≤k)(h8:k≤8):CP [] 183 [.ptr 0 0,iA k] [rdG s,.res R] (fun v H'=>∃n s' G,s.long k=(n,s')∧s'.Ok R∧v=uA (n:Nat)∧H'=rdG s'::.res R::G):=
 CallS.mono (rlong h h1 h8) (by rintro _ _ ⟨rfl,G,rfl⟩;exact ⟨_,_,G,rfl,h.take k,rfl,rfl⟩)
theorem rnumE{R:Res}{s:Rst}{k:Nat}(h:s.Ok R)(h1:1≤k)(h8:k≤8):CP [] 103 [.ptr 0 0,iA k] [rdG s,.res R] (fun v H'=>∃n s' G,s.num k=(n,s')∧s'.Ok R∧v=iA (n:Nat)∧H'=rdG s'::.res R::G):=
 CallS.mono (rnumber h h1 h8) (by rintro _ _ ⟨rfl,G,rfl⟩;exact ⟨_,_,G,rfl,h.num k,rfl,rfl⟩)
theorem rinto1{R:Res}{s:Rst}{k j0:Nat}{cs:List AV}{T P:TypeId}(h:s.Ok R)(h1:1≤k)(h8:k≤8)(hj0:j0<cs.length)(hc:∀g,cs.map (AV.ren g)=cs):CP [] 102 [.ptr 0 0,iA k,.slice 3 0 1 (.k 1)] [rdG s,.res R,.cells cs T,.cells [.ptr 2 j0] P] (fun u H'=>∃x0 s1 G,(s.num k=(x0,s1))∧s1.Ok R∧u=undefV∧H'=rdG s1::.res R::.cells (cs.set j0 (iA (x0:Nat))) T::.cells [.ptr 2 j0] P::G):=
 CallS.mono (rinto (is:=[j0]) (T:=T) (P:=P) h h1 h8 (by show 1≤1000;decide) (fun j hj=>by simp only[List.mem_cons,List.not_mem_nil,or_false] at hj;obtain rfl:=hj;exact hj0) hc) (by rintro _ _ ⟨rfl,G,rfl⟩;exact ⟨_,_,G,rfl,h.nums k 1,rfl,rfl⟩)
theorem rinto2{R:Res}{s:Rst}{k j0 j1:Nat}{cs:List AV}{T P:TypeId}(h:s.Ok R)(h1:1≤k)(h8:k≤8)(hj0:j0<cs.length)(hj1:j1<cs.length)(hc:∀g,cs.map (AV.ren g)=cs):CP [] 102 [.ptr 0 0,iA k,.slice 3 0 2 (.k 2)] [rdG s,.res R,.cells cs T,.cells [.ptr 2 j0,.ptr 2 j1] P] (fun u H'=>∃x0 s1 x1 s2 G,(s.num k=(x0,s1)∧s1.num k=(x1,s2))∧s2.Ok R∧u=undefV∧H'=rdG s2::.res R::.cells ((cs.set j0 (iA (x0:Nat))).set j1 (iA (x1:Nat))) T::.cells [.ptr 2 j0,.ptr 2 j1] P::G):=
 CallS.mono (rinto (is:=[j0,j1]) (T:=T) (P:=P) h h1 h8 (by show 2≤1000;decide) (fun j hj=>by simp only[List.mem_cons,List.not_mem_nil,or_false] at hj;rcases hj with rfl|rfl<;>assumption) hc) (by rintro _ _ ⟨rfl,G,rfl⟩;exact ⟨_,_,_,_,G,⟨rfl,rfl⟩,h.nums k 2,rfl,rfl⟩)
theorem rinto3{R:Res}{s:Rst}{k j0 j1 j2:Nat}{cs:List AV}{T P:TypeId}(h:s.Ok R)(h1:1≤k)(h8:k≤8)(hj0:j0<cs.length)(hj1:j1<cs.length)(hj2:j2<cs.length)(hc:∀g,cs.map (AV.ren g)=cs):CP [] 102 [.ptr 0 0,iA k,.slice 3 0 3 (.k 3)] [rdG s,.res R,.cells cs T,.cells [.ptr 2 j0,.ptr 2 j1,.ptr 2 j2] P] (fun u H'=>∃x0 s1 x1 s2 x2 s3 G,(s.num k=(x0,s1)∧s1.num k=(x1,s2)∧s2.num k=(x2,s3))∧s3.Ok R∧u=undefV∧H'=rdG s3::.res R::.cells (((cs.set j0 (iA (x0:Nat))).set j1 (iA (x1:Nat))).set j2 (iA (x2:Nat))) T::.cells [.ptr 2 j0,.ptr 2 j1,.ptr 2 j2] P::G):=
 CallS.mono (rinto (is:=[j0,j1,j2]) (T:=T) (P:=P) h h1 h8 (by show 3≤1000;decide) (fun j hj=>by simp only[List.mem_cons,List.not_mem_nil,or_false] at hj;rcases hj with rfl|rfl|rfl<;>assumption) hc) (by rintro _ _ ⟨rfl,G,rfl⟩;exact ⟨_,_,_,_,_,_,G,⟨rfl,rfl,rfl⟩,h.nums k 3,rfl,rfl⟩)
theorem rinto4{R:Res}{s:Rst}{k j0 j1 j2 j3:Nat}{cs:List AV}{T P:TypeId}(h:s.Ok R)(h1:1≤k)(h8:k≤8)(hj0:j0<cs.length)(hj1:j1<cs.length)(hj2:j2<cs.length)(hj3:j3<cs.length)(hc:∀g,cs.map (AV.ren g)=cs):CP [] 102 [.ptr 0 0,iA k,.slice 3 0 4 (.k 4)] [rdG s,.res R,.cells cs T,.cells [.ptr 2 j0,.ptr 2 j1,.ptr 2 j2,.ptr 2 j3] P] (fun u H'=>∃x0 s1 x1 s2 x2 s3 x3 s4 G,(s.num k=(x0,s1)∧s1.num k=(x1,s2)∧s2.num k=(x2,s3)∧s3.num k=(x3,s4))∧s4.Ok R∧u=undefV∧H'=rdG s4::.res R::.cells ((((cs.set j0 (iA (x0:Nat))).set j1 (iA (x1:Nat))).set j2 (iA (x2:Nat))).set j3 (iA (x3:Nat))) T::.cells [.ptr 2 j0,.ptr 2 j1,.ptr 2 j2,.ptr 2 j3] P::G):=
 CallS.mono (rinto (is:=[j0,j1,j2,j3]) (T:=T) (P:=P) h h1 h8 (by show 4≤1000;decide) (fun j hj=>by simp only[List.mem_cons,List.not_mem_nil,or_false] at hj;rcases hj with rfl|rfl|rfl|rfl<;>assumption) hc) (by rintro _ _ ⟨rfl,G,rfl⟩;exact ⟨_,_,_,_,_,_,_,_,G,⟨rfl,rfl,rfl,rfl⟩,h.nums k 4,rfl,rfl⟩)
def Rst.evn(s:Rst):Evn×Rst:=
 let a:=s.num 2
 let b:=a.2.num 1
 let c:=b.2.num 1
 let d:=c.2.num 4
 (⟨a.1,b.1,c.1,d.1⟩,d.2)
def Rst.rcd(s:Rst):Rcd×Rst:=
 let a:=s.num 2
 let b:=a.2.num 2
 let c:=b.2.num 2
 let d:=c.2.num 1
 (⟨a.1,b.1,c.1,d.1⟩,d.2)
def Rst.shp(s:Rst):Shp×Rst:=
 let a:=s.num 2
 let b:=a.2.num 2
 let c:=b.2.num 2
 let d:=c.2.num 2
 let e:=d.2.num 2
 let f:=e.2.num 1
 (⟨a.1,b.1,c.1,d.1,e.1,f.1⟩,f.2)
theorem revent{R:Res}{s:Rst}(h:s.Ok R):CP [] 111 [.ptr 0 0] [rdG s,.res R] (fun v H'=>∃x s' G,s.evn=(x,s')∧s'.Ok R∧v=.agg (evA x)∧H'=rdG s'::.res R::G):=by
 refine fn_ok ev_ok rfl ?_
 repeat' ((conv=>whnf);first|with_reducible apply brP_of<;>intro _|(refine (rinto1 (k:=2) (j0:=0) (cs:=[iA 0,iA 0,iA 0,iA 0]) (T:=81) (P:=189) h (by decide) (by decide) (by simp) (fun _=>rfl)).use [0,1,3,4] rfl rfl ⟨⟨_,rfl,rfl⟩,⟨_,rfl,kp⟩,⟨_,rfl,rfl⟩,⟨_,rfl,rfl⟩,tU⟩ ?_;rintro _ _ ⟨x0,s1,G1,e0,h1,rfl,rfl⟩;refine ⟨[],?_⟩)|(refine (rinto2 (k:=1) (j0:=1) (j1:=2) (cs:=[iA (x0:Nat),iA 0,iA 0,iA 0]) (T:=81) (P:=189) h1 (by decide) (by decide) (by simp) (by simp) (fun _=>rfl)).use [0,1,3,5] rfl rfl ⟨⟨_,rfl,rfl⟩,⟨_,rfl,kp⟩,⟨_,rfl,rfl⟩,⟨_,rfl,rfl⟩,tU⟩ ?_;rintro _ _ ⟨x1,s2,x2,s3,G3,⟨e1,e2⟩,h3,rfl,rfl⟩;refine ⟨[],?_⟩)|(refine (rinto1 (k:=4) (j0:=3) (cs:=[iA (x0:Nat),iA (x1:Nat),iA (x2:Nat),iA 0]) (T:=81) (P:=189) h3 (by decide) (by decide) (by simp) (fun _=>rfl)).use [0,1,3,6] rfl rfl ⟨⟨_,rfl,rfl⟩,⟨_,rfl,kp⟩,⟨_,rfl,rfl⟩,⟨_,rfl,rfl⟩,tU⟩ ?_;rintro _ _ ⟨x3,s4,G4,e3,h4,rfl,rfl⟩;refine ⟨[],?_⟩))
 all_goals (try conv=>whnf)
 exact ⟨⟨x0,x1,x2,x3⟩,s4,_,by simp only[Rst.evn,e0,e1,e2,e3],h4,rfl,rfl⟩
theorem rrecord{R:Res}{s:Rst}(h:s.Ok R):CP [] 106 [.ptr 0 0] [rdG s,.res R] (fun v H'=>∃x s' G,s.rcd=(x,s')∧s'.Ok R∧v=.agg (rcdA x)∧H'=rdG s'::.res R::G):=by
 refine fn_ok ev_ok rfl ?_
 repeat' ((conv=>whnf);first|with_reducible apply brP_of<;>intro _|(refine (rinto3 (k:=2) (j0:=0) (j1:=1) (j2:=2) (cs:=[iA 0,iA 0,iA 0,iA 0]) (T:=72) (P:=189) h (by decide) (by decide) (by simp) (by simp) (by simp) (fun _=>rfl)).use [0,1,3,4] rfl rfl ⟨⟨_,rfl,rfl⟩,⟨_,rfl,kp⟩,⟨_,rfl,rfl⟩,⟨_,rfl,rfl⟩,tU⟩ ?_;rintro _ _ ⟨x0,s1,x1,s2,x2,s3,G3,⟨e0,e1,e2⟩,h3,rfl,rfl⟩;refine ⟨[],?_⟩)|(refine (rinto1 (k:=1) (j0:=3) (cs:=[iA (x0:Nat),iA (x1:Nat),iA (x2:Nat),iA 0]) (T:=72) (P:=189) h3 (by decide) (by decide) (by simp) (fun _=>rfl)).use [0,1,3,5] rfl rfl ⟨⟨_,rfl,rfl⟩,⟨_,rfl,kp⟩,⟨_,rfl,rfl⟩,⟨_,rfl,rfl⟩,tU⟩ ?_;rintro _ _ ⟨x3,s4,G4,e3,h4,rfl,rfl⟩;refine ⟨[],?_⟩))
 all_goals (try conv=>whnf)
 exact ⟨⟨x0,x1,x2,x3⟩,s4,_,by simp only[Rst.rcd,e0,e1,e2,e3],h4,rfl,rfl⟩
theorem rrectS{R:Res}{s:Rst}{a0:Int}{a1:Int}{a2:Int}{a3:Int}{a4:Int}{a5:Int}(h:s.Ok R):CP [] 186 [.ptr 0 0,.ptr 2 1] [rdG s,.res R,.cells [iA a0,iA a1,iA a2,iA a3,iA a4,iA a5] 78] (fun u H'=>∃x0 s1 x1 s2 x2 s3 x3 s4 G,(s.num 2=(x0,s1)∧s1.num 2=(x1,s2)∧s2.num 2=(x2,s3)∧s3.num 2=(x3,s4))∧s4.Ok R∧u=undefV∧H'=rdG s4::.res R::.cells [iA a0,iA (x0:Nat),iA (x1:Nat),iA (x2:Nat),iA (x3:Nat),iA a5] 78::G):=by
 refine fn_ok ev_ok rfl ?_
 repeat' ((conv=>whnf);first|with_reducible apply brP_of<;>intro _|refine WpS.drawn ev_ok rfl rfl ?_|with_reducible refine And.intro (AgP.mk ⟨_,rfl,rfl⟩) ?_|(refine (rinto4 (k:=2) (j0:=1) (j1:=2) (j2:=3) (j3:=4) (cs:=[iA a0,iA a1,iA a2,iA a3,iA a4,iA a5]) (T:=78) (P:=189) h (by decide) (by decide) (by simp) (by simp) (by simp) (by simp) (fun _=>rfl)).use [0,1,2,3] rfl rfl ⟨⟨_,rfl,rfl⟩,⟨_,rfl,kp⟩,⟨_,rfl,rfl⟩,⟨_,rfl,rfl⟩,tU⟩ ?_;rintro _ _ ⟨x0,s1,x1,s2,x2,s3,x3,s4,G,⟨e0,e1,e2,e3⟩,h4,rfl,rfl⟩;refine ⟨[],?_⟩))
 all_goals (try conv=>whnf)
 exact ⟨x0,s1,x1,s2,x2,s3,x3,s4,_,⟨e0,e1,e2,e3⟩,h4,rfl,rfl⟩
theorem rshape{R:Res}{s:Rst}(h:s.Ok R):CP [] 108 [.ptr 0 0] [rdG s,.res R] (fun v H'=>∃x s' G,s.shp=(x,s')∧s'.Ok R∧v=.agg (shpA x)∧H'=rdG s'::.res R::G):=by
 refine fn_ok ev_ok rfl ?_
 repeat' ((conv=>whnf);first|with_reducible apply brP_of<;>intro _|(refine (rinto1 (k:=2) (j0:=0) (cs:=[iA 0,iA 0,iA 0,iA 0,iA 0,iA 0]) (T:=78) (P:=189) h (by decide) (by decide) (by simp) (fun _=>rfl)).use [0,1,3,4] rfl rfl ⟨⟨_,rfl,rfl⟩,⟨_,rfl,kp⟩,⟨_,rfl,rfl⟩,⟨_,rfl,rfl⟩,tU⟩ ?_;rintro _ _ ⟨x0,s1,G1,e0,h1,rfl,rfl⟩;refine ⟨[],?_⟩)|(refine (rrectS (a0:=(x0:Nat)) (a1:=0) (a2:=0) (a3:=0) (a4:=0) (a5:=0) h1).use [0,1,3] rfl rfl ⟨⟨_,rfl,rfl⟩,⟨_,rfl,kp⟩,⟨_,rfl,rfl⟩,tU⟩ ?_;rintro _ _ ⟨x1,s2,x2,s3,x3,s4,x4,s5,G5,⟨e1,e2,e3,e4⟩,h5,rfl,rfl⟩;refine ⟨[],?_⟩)|(refine (rinto1 (k:=1) (j0:=5) (cs:=[iA (x0:Nat),iA (x1:Nat),iA (x2:Nat),iA (x3:Nat),iA (x4:Nat),iA 0]) (T:=78) (P:=189) h5 (by decide) (by decide) (by simp) (fun _=>rfl)).use [0,1,3,5] rfl rfl ⟨⟨_,rfl,rfl⟩,⟨_,rfl,kp⟩,⟨_,rfl,rfl⟩,⟨_,rfl,rfl⟩,tU⟩ ?_;rintro _ _ ⟨x5,s6,G6,e5,h6,rfl,rfl⟩;refine ⟨[],?_⟩))
 all_goals (try conv=>whnf)
 exact ⟨⟨x0,x1,x2,x3,x4,x5⟩,s6,_,by simp only[Rst.shp,e0,e1,e2,e3,e4,e5],h6,rfl,rfl⟩
theorem rrectT{R:Res}{s:Rst}{a0:Int}{a1:Int}{a2:Int}{a3:Int}{a4:Int}{a5:Int}{a6:Int}{a7:Int}{a8:Bool}{a9:Int}(h:s.Ok R):CP [] 186 [.ptr 0 0,.ptr 2 4] [rdG s,.res R,.cells [uA a0,uA a1,iA a2,iA a3,iA a4,iA a5,iA a6,iA a7,.lit (.bool a8),iA a9] 96] (fun u H'=>∃x0 s1 x1 s2 x2 s3 x3 s4 G,(s.num 2=(x0,s1)∧s1.num 2=(x1,s2)∧s2.num 2=(x2,s3)∧s3.num 2=(x3,s4))∧s4.Ok R∧u=undefV∧H'=rdG s4::.res R::.cells [uA a0,uA a1,iA a2,iA a3,iA (x0:Nat),iA (x1:Nat),iA (x2:Nat),iA (x3:Nat),.lit (.bool a8),iA a9] 96::G):=by
 refine fn_ok ev_ok rfl ?_
 repeat' ((conv=>whnf);first|with_reducible apply brP_of<;>intro _|refine WpS.drawn ev_ok rfl rfl ?_|with_reducible refine And.intro (AgP.mk ⟨_,rfl,rfl⟩) ?_|(refine (rinto4 (k:=2) (j0:=4) (j1:=5) (j2:=6) (j3:=7) (cs:=[uA a0,uA a1,iA a2,iA a3,iA a4,iA a5,iA a6,iA a7,.lit (.bool a8),iA a9]) (T:=96) (P:=189) h (by decide) (by decide) (by simp) (by simp) (by simp) (by simp) (fun _=>rfl)).use [0,1,2,3] rfl rfl ⟨⟨_,rfl,rfl⟩,⟨_,rfl,kp⟩,⟨_,rfl,rfl⟩,⟨_,rfl,rfl⟩,tU⟩ ?_;rintro _ _ ⟨x0,s1,x1,s2,x2,s3,x3,s4,G,⟨e0,e1,e2,e3⟩,h4,rfl,rfl⟩;refine ⟨[],?_⟩))
 all_goals (try conv=>whnf)
 exact ⟨x0,s1,x1,s2,x2,s3,x3,s4,_,⟨e0,e1,e2,e3⟩,h4,rfl,rfl⟩
theorem rinto3V{R:Res}{s:Rst}{a0 a1:Int}{T U P:TypeId}(h:s.Ok R):CP [] 102 [.ptr 0 0,iA 1,.slice 4 0 3 (.k 3)] [rdG s,.res R,.cells [uA a0,uA a1,iA 0,iA 0,iA 0,iA 0,iA 0,iA 0,.lit (.bool false),iA 0] T,.cells [iA 0] U,.cells [.ptr 2 2,.ptr 2 3,.ptr 3 0] P] (fun u H'=>∃x0 s1 x1 s2 x2 s3 G,(s.num 1=(x0,s1)∧s1.num 1=(x1,s2)∧s2.num 1=(x2,s3))∧s3.Ok R∧u=undefV∧H'=rdG s3::.res R::.cells [uA a0,uA a1,iA (x0:Nat),iA (x1:Nat),iA 0,iA 0,iA 0,iA 0,.lit (.bool false),iA 0] T::.cells [iA (x2:Nat)] U::.cells [.ptr 2 2,.ptr 2 3,.ptr 3 0] P::G):=by
 refine fn_ok ev_ok rfl ?_
 conv=>whnf
 refine RdS.loop 4 ?_
 repeat' ((conv=>whnf);first|with_reducible apply brP_of<;>intro _|refine RdS.step ev_ok rfl ?_|refine IdxP.of (k:=0) rfl (by decide) ?_|refine IdxP.of (k:=1) rfl (by decide) ?_|refine IdxP.of (k:=2) rfl (by decide) ?_|(refine (rnumE (k:=1) h2 (by decide) (by decide)).use [0,1] rfl rfl ⟨⟨_,rfl,rfl⟩,⟨_,rfl,kp⟩,tU⟩ ?_;rintro _ _ ⟨x2,s3,G3,e2,h3,rfl,rfl⟩;refine ⟨[],?_⟩)|(refine (rnumE (k:=1) h1 (by decide) (by decide)).use [0,1] rfl rfl ⟨⟨_,rfl,rfl⟩,⟨_,rfl,kp⟩,tU⟩ ?_;rintro _ _ ⟨x1,s2,G2,e1,h2,rfl,rfl⟩;refine ⟨[],?_⟩)|(refine (rnumE (k:=1) h (by decide) (by decide)).use [0,1] rfl rfl ⟨⟨_,rfl,rfl⟩,⟨_,rfl,kp⟩,tU⟩ ?_;rintro _ _ ⟨x0,s1,G1,e0,h1,rfl,rfl⟩;refine ⟨[],?_⟩))
 all_goals (try conv=>whnf)
 exact ⟨x0,s1,x1,s2,x2,s3,_,⟨e0,e1,e2⟩,h3,rfl,rfl⟩
def Rst.tik(s:Rst):Tik×Rst:=
 let a:=s.long 8
 let b:=a.2.long 8
 let o:=b.2.num 1
 let z:=o.2.num 1
 let v:=z.2.num 1
 let w:Rst:=⟨v.2.A,v.2.c,v.2.l,v.2.bad || decide (1<v.1)⟩
 let x0:=w.num 2
 let y0:=x0.2.num 2
 let x1:=y0.2.num 2
 let y1:=x1.2.num 2
 let u:=y1.2.num 4
 (⟨a.1,b.1,⟨o.1,z.1,x0.1,y0.1,x1.1,y1.1,decide (v.1=1),u.1⟩⟩,u.2)
theorem Rst.Ok.turn{R:Res}{s:Rst}(h:s.Ok R)(b:Bool):(⟨s.A,s.c,s.l,b⟩:Rst).Ok R:=⟨h.nil,h.lie⟩
theorem tik_eq{s s1 s2 s3 s4 s5 s6 s7 s8 s9 s10:Rst}{x0 x1 x2 x3 x4 x5 x6 x7 x8 x9:Nat}{b v:Bool}(e0:s.long 8=(x0,s1))(e1:s1.long 8=(x1,s2))(e2:s2.num 1=(x2,s3))(e3:s3.num 1=(x3,s4))(e4:s4.num 1=(x4,s5))(e5:Rst.num 2 ⟨s5.A,s5.c,s5.l,b⟩=(x5,s6))(e6:s6.num 2=(x6,s7))(e7:s7.num 2=(x7,s8))(e8:s8.num 2=(x8,s9))(e9:s9.num 4=(x9,s10))(hb:(s5.bad || decide (1<x4))=b)(hv:decide (x4=1)=v):s.tik=(⟨x0,x1,⟨x2,x3,x5,x6,x7,x8,v,x9⟩⟩,s10):=by
 subst hb hv
 simp only[Rst.tik,e0,e1,e2,e3,e4,e5,e6,e7,e8,e9]
theorem beq1{x:Nat}{b:Bool}(h:((x:Int)==1)=b):decide (x=1)=b:=by
 subst h
 by_cases e:x=1
 ·subst e;rfl
 ·rw[decide_eq_false e]
  exact (beq_eq_false_iff_ne.2 (by omega)).symm
theorem gt1{x:Nat}{b:Bool}(h:decide ((x:Int)>1)=b):decide (1<x)=b:=by
 subst h
 exact decide_eq_decide.2 ⟨fun h=>by omega,fun h=>by omega⟩
theorem rticket{R:Res}{s:Rst}(h:s.Ok R):CP [] 185 [.ptr 0 0] [rdG s,.res R] (fun v H'=>∃x s' G,s.tik=(x,s')∧s'.Ok R∧v=.agg ((tC x).map .lit)∧H'=rdG s'::.res R::G):=by
 refine fn_ok ev_ok rfl ?_
 refine FnW.of rfl rfl ?_
 refine WpC.seqG fun F hF=>?_
 repeat' ((conv=>whnf);first|with_reducible apply brP_of<;>intro _|(refine (rlongE (k:=8) h1 (by decide) (by decide)).use [0,1] rfl rfl ⟨⟨_,rfl,rfl⟩,⟨_,rfl,kp⟩,tU⟩ ?_;rintro _ _ ⟨x1,s2,G2,e1,h2,rfl,rfl⟩;refine ⟨[],?_⟩)|(refine (rlongE (k:=8) h (by decide) (by decide)).use [0,1] rfl rfl ⟨⟨_,rfl,rfl⟩,⟨_,rfl,kp⟩,tU⟩ ?_;rintro _ _ ⟨x0,s1,G1,e0,h1,rfl,rfl⟩;refine ⟨[],?_⟩)|(refine (rinto3V (a0:=x0) (a1:=x1) (T:=96) (U:=3) (P:=189) h2).use [0,1,3,4,5] rfl rfl ⟨⟨_,rfl,rfl⟩,⟨_,rfl,kp⟩,⟨_,rfl,rfl⟩,⟨_,rfl,rfl⟩,⟨_,rfl,rfl⟩,tU⟩ ?_;rintro _ _ ⟨x2,s3,x3,s4,x4,s5,G5,⟨e2,e3,e4⟩,h5,rfl,rfl⟩;refine ⟨[],?_⟩)|(refine (rrectT (a0:=x0) (a1:=x1) (a2:=(x2:Nat)) (a3:=(x3:Nat)) (a4:=0) (a5:=0) (a6:=0) (a7:=0) (a8:=true) (a9:=0) (h5.turn true)).use [0,1,3] rfl rfl ⟨⟨_,rfl,rfl⟩,⟨_,rfl,kp⟩,⟨_,rfl,rfl⟩,tU⟩ ?_;rintro _ _ ⟨x5,s6,x6,s7,x7,s8,x8,s9,G9,⟨e5,e6,e7,e8⟩,h9,rfl,rfl⟩;refine ⟨[],?_⟩)|(refine (rrectT (a0:=x0) (a1:=x1) (a2:=(x2:Nat)) (a3:=(x3:Nat)) (a4:=0) (a5:=0) (a6:=0) (a7:=0) (a8:=false) (a9:=0) (h5.turn true)).use [0,1,3] rfl rfl ⟨⟨_,rfl,rfl⟩,⟨_,rfl,kp⟩,⟨_,rfl,rfl⟩,tU⟩ ?_;rintro _ _ ⟨x5,s6,x6,s7,x7,s8,x8,s9,G9,⟨e5,e6,e7,e8⟩,h9,rfl,rfl⟩;refine ⟨[],?_⟩)|(refine (rrectT (a0:=x0) (a1:=x1) (a2:=(x2:Nat)) (a3:=(x3:Nat)) (a4:=0) (a5:=0) (a6:=0) (a7:=0) (a8:=true) (a9:=0) (h5.turn false)).use [0,1,3] rfl rfl ⟨⟨_,rfl,rfl⟩,⟨_,rfl,kp⟩,⟨_,rfl,rfl⟩,tU⟩ ?_;rintro _ _ ⟨x5,s6,x6,s7,x7,s8,x8,s9,G9,⟨e5,e6,e7,e8⟩,h9,rfl,rfl⟩;refine ⟨[],?_⟩)|(refine (rrectT (a0:=x0) (a1:=x1) (a2:=(x2:Nat)) (a3:=(x3:Nat)) (a4:=0) (a5:=0) (a6:=0) (a7:=0) (a8:=false) (a9:=0) (h5.turn false)).use [0,1,3] rfl rfl ⟨⟨_,rfl,rfl⟩,⟨_,rfl,kp⟩,⟨_,rfl,rfl⟩,tU⟩ ?_;rintro _ _ ⟨x5,s6,x6,s7,x7,s8,x8,s9,G9,⟨e5,e6,e7,e8⟩,h9,rfl,rfl⟩;refine ⟨[],?_⟩)|(refine (rinto1 (k:=4) (j0:=9) (cs:=[uA x0,uA x1,iA (x2:Nat),iA (x3:Nat),iA (x5:Nat),iA (x6:Nat),iA (x7:Nat),iA (x8:Nat),.lit (.bool true),iA 0]) (T:=96) (P:=189) h9 (by decide) (by decide) (by simp) (fun _=>rfl)).use [0,1,3,6] rfl rfl ⟨⟨_,rfl,rfl⟩,⟨_,rfl,kp⟩,⟨_,rfl,rfl⟩,⟨_,rfl,rfl⟩,tU⟩ ?_;rintro _ _ ⟨x9,s10,G10,e9,h10,rfl,rfl⟩;refine ⟨[],?_⟩)|(refine (rinto1 (k:=4) (j0:=9) (cs:=[uA x0,uA x1,iA (x2:Nat),iA (x3:Nat),iA (x5:Nat),iA (x6:Nat),iA (x7:Nat),iA (x8:Nat),.lit (.bool false),iA 0]) (T:=96) (P:=189) h9 (by decide) (by decide) (by simp) (fun _=>rfl)).use [0,1,3,6] rfl rfl ⟨⟨_,rfl,rfl⟩,⟨_,rfl,kp⟩,⟨_,rfl,rfl⟩,⟨_,rfl,rfl⟩,tU⟩ ?_;rintro _ _ ⟨x9,s10,G10,e9,h10,rfl,rfl⟩;refine ⟨[],?_⟩)|(show F _ _ _;subst hF;refine WpC.seqG fun F hF=>?_)|(show F _ _ _;subst hF))
 all_goals (try conv=>whnf)
 all_goals (rename_i hv)
 ·rename_i hb
  exact ⟨_,s10,_,tik_eq e0 e1 e2 e3 e4 e5 e6 e7 e8 e9 (by rw[hb];rfl) (beq1 hv),h10,rfl,rfl⟩
 ·rename_i hb
  exact ⟨_,s10,_,tik_eq e0 e1 e2 e3 e4 e5 e6 e7 e8 e9 (by rw[hb];rfl) (beq1 hv),h10,rfl,rfl⟩
 all_goals
  rename_i hb hx
  exact ⟨_,s10,_,tik_eq e0 e1 e2 e3 e4 e5 e6 e7 e8 e9 (by rw[hb,gt1 hx];rfl) (beq1 hv),h10,rfl,rfl⟩
end Go.Proofs.YtmbdghclhpboaaaGreat
