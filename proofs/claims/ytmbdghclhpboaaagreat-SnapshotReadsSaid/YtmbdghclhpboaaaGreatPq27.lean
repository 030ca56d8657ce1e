/- Part of the proof: SyP SyR Lx Lx2 Lx3 Lx4. Conditions: as each states. -/
import Derived.Test.YtmbdghclhpboaaaGreatPq26
import Derived.Lib.Strings
set_option linter.all false
set_option maxRecDepth 100000
namespace Go.Proofs.YtmbdghclhpboaaaGreat.Ev
open Go.RowKit
section
variable{P:Program}{E:Env}(hE:cL P E){S:List Nat}{t:aE}{H:List ai}{K:AV->List ai->Prop}
include hE
theorem al.DX{src dst e:TypeId}{r er dr:dd}{x:Operand}{a:Addr}{n c i:Nat}{l:List UInt8}{R:aC}(hs:E.ty src=some r)(hu:r.bp=.slice e)(he:E.ty e=some er)(heu:er.bp=.int .u8)(hd:E.ty dst=some dr)(hdu:dr.bp=.string)(hx:aL t x=some (.lit (.slice (some a) n c)))(hn:l.length=n)(hi:H[i]?=some (.res R))(hc:∀w S,R.at_ w S->∀j (hj:j<l.length),w.cell? (a.add j)=some (.int .u8 (l[j].toNat:Int)))(h:K (.lit (.string ⟨l.toArray⟩)) H):al E P true S t H (.convert src dst x) K:=
 ⟨.inr ⟨rfl,⟨fun F γ w ρ hR cE cK bJ o' ho=>by
  have h1:=bJ x _ (by simp[Op.operands]) hx;rw[au] at h1;obtain ⟨T,hT,_⟩:=cK.out;have yx:(cz H)[i]?=some R:=by unfold cz;rw[List.getElem?_map,hi];rfl
  obtain ⟨S1,S2,b1,_,_,_⟩:=db hT yx;refine ⟨_,H,γ,.value (.string ⟨l.toArray⟩),w,?_,.inl ⟨_,rfl,aS γ _⟩,h,hR,.refl γ _,cE,cK⟩;obtain ⟨acr,op,type,pos,after,guard⟩:=o';simp only[] at ho;subst ho;simp only[execOp];refine dE ?_;rw[h1];subst hn;exact run_convert_bytes_back w src dst e a c l (by rw[hE.bp src r hs,hu]) (by rw[hE.bp e er he,heu]) (by rw[hE.bp dst dr hd,hdu]) (hc w S1 b1)⟩⟩⟩
end
theorem mG{γ:aT}:∀{l1 l2:List AV} {xs:List Value},aG γ (l1++l2) xs↔∃x1 x2,xs=x1++x2/\aG γ l1 x1/\aG γ l2 x2
 | [],l2,xs=>⟨fun h=>⟨[],xs,rfl,rfl,h⟩,fun ⟨x1,x2,h1,h2,h3⟩=>by
   simp only[aG] at h2;subst h1 h2;exact h3⟩
 | v::l1,l2,xs=>by
   constructor
   ·rintro ⟨x,ys,rfl,h1,h2⟩;obtain ⟨x1,x2,rfl,h3,h4⟩:=mG.1 h2;exact ⟨x::x1,x2,rfl,⟨x,x1,rfl,h1,h3⟩,h4⟩
   ·rintro ⟨_,x2,rfl,⟨x,x1,rfl,h1,h3⟩,h4⟩;exact ⟨x,x1++x2,rfl,h1,mG.2 ⟨x1,x2,rfl,h3,h4⟩⟩
def AQ(o:Nat)(u:AV):Prop:=∀g:Nat->Nat,(∀q,q≠o->g q=q)->u.cI g=u
theorem Nt{γ ay:aT}{o:Nat}(h:∀i,i≠o->ay i=γ i){u:AV}(hu:AQ o u){x:Value}(k:aw γ u x):aw ay u x:=by
 have hg:=hu (fun i=>if i=o then o+1 else i) (fun i hi=>if_neg hi);rw[<-hg] at k ⊢;rw[fm] at k ⊢;have e:(fun i=>γ (if i=o then o+1 else i))=fun i=>ay (if i=o then o+1 else i):=funext fun i=>by
  by_cases hi:i=o
  ·simp only[if_pos hi];exact (h _ (by omega)).symm
  ·simp only[if_neg hi];exact (h _ hi).symm
 rw[<-e];exact k
theorem oM{γ ay:aT}{o:Nat}(h:∀i,i≠o->ay i=γ i):∀{l:List AV} {xs:List Value},(∀u∈l,AQ o u)->aG γ l xs->aG ay l xs
 | [],_,_,k=>k
 | u::l,_,hu,⟨x,xs,e,h1,h2⟩=>⟨x,xs,e,Nt h (hu u (by simp)) h1,oM h (fun v hv=>hu v (by simp[hv])) h2⟩
theorem aj.VH(HQ:List AV->AV){cv:Array Value->Value}(IA:∀γ l x,aw γ (HQ l) x↔∃a:Array Value,x=cv a/\aG γ l a.toList){P:Program}{f:Nat}{args:List AV}{H:List ai}{K' K:AV->List ai->Prop}(c:aj P [] f args H K')
  (hk:∀v H',K' v H'->K v H'\/∃(l1 l2:List AV) (o n:Nat) (cap:pe) (xs:List Value) (e:TypeId),v=HQ (l1++.slice o 0 n cap::l2)/\0<n/\H'[o]?=some (.row xs e)/\(∀u∈l1++l2,AQ o u)/\∀b off m,K (HQ (l1++.lit (.slice (some ⟨b,off,none⟩) n m)::l2)) (H'.set o (.res (iP ⟨b,off,none⟩ xs)))):aj P [] f args H K:=⟨fun F γ w ys hR cE cK qp=>by
 obtain ⟨c1,c2⟩:=c.out F γ w ys hR cE cK qp;refine ⟨c1,fun R fx=>c2 R fun v H' ay x w' k1 k2 k3=>?_⟩;rcases hk v H' k1 with h|⟨l1,l2,o,n,cap,xs,e,rfl,hn,ho,oT,h⟩
 ·exact fx v H' ay x w' h k2 k3
 ·obtain ⟨a,rfl,k4⟩:=(IA _ _ _).1 k2;obtain ⟨x1,x2,hx,q1,q2⟩:=mG.1 k4;obtain ⟨y,x3,rfl,q3,q4⟩:=q2;simp only[aw] at q3;obtain ⟨ad,m,rfl,dO,NT,_⟩:=q3;have dO:=dO.resolve_left (by omega);have si:o<H'.length:=de ho;have DA:ay o≠none:=k3.pl o si (by simp);have aP:∃p,ay o=some (some p):=by
   cases hg:ay o with
   | none=>exact absurd hg DA
   | some q=>
     cases q with
     | some p=>exact ⟨p,rfl⟩
     | none=>
       have h1:=k3.rel.gone o hg;rw[aZ k3.rel.aY] at h1;rw[ho] at h1;cases h1
  obtain ⟨p,bX⟩:=aP;unfold gY at dO;rw[bX] at dO;simp only[Nat.add_zero] at dO;subst dO;obtain ⟨h1,h2,h3⟩:=vE k3.rel k3.rs bX (.inl ho);have g1:∀i,i≠o->(gh ay o none) i=ay i:=fun i h=>ck _ _ h;refine fx _ _ _ _ w' (h _ _ m) ((IA _ _ _).2 ⟨_,rfl,mG.2 ⟨x1,_,hx,oM g1 (fun u hu=>oT u (by simp[hu])) q1,_,_,rfl,aS _ _,oM g1 (fun u hu=>oT u (by simp[hu])) q4⟩⟩) ⟨h1,k3.step.trans h3,fun q hq _=>?_,h2⟩;by_cases e:q=o
  ·rw[e,bI];simp
  ·rw[ck _ _ e];exact k3.pl q (by simpa using hq) (by simp)⟩
theorem aj.VG{P:Program}{f:Nat}{args:List AV}{H:List ai}{K' K:AV->List ai->Prop}(c:aj P [] f args H K')
  (hk:∀v H',K' v H'->K v H'\/∃(l1 l2:List AV) (o n:Nat) (cap:pe) (xs:List Value) (e:TypeId),v=.agg (l1++.slice o 0 n cap::l2)/\0<n/\H'[o]?=some (.row xs e)/\(∀u∈l1++l2,AQ o u)/\∀b off m,K (.agg (l1++.lit (.slice (some ⟨b,off,none⟩) n m)::l2)) (H'.set o (.res (iP ⟨b,off,none⟩ xs)))):aj P [] f args H K:=aj.VH .agg (fun _ _ _=>Iff.rfl) c hk
theorem aj.aaj{P:Program}{f:Nat}{args:List AV}{H:List ai}{K' K:AV->List ai->Prop}(c:aj P [] f args H K')
  (hk:∀v H',K' v H'->K v H'\/∃(l1 l2:List AV) (o n:Nat) (cap:pe) (xs:List Value) (e:TypeId),v=.tuple (l1++.slice o 0 n cap::l2)/\0<n/\H'[o]?=some (.row xs e)/\(∀u∈l1++l2,AQ o u)/\∀b off m,K (.tuple (l1++.lit (.slice (some ⟨b,off,none⟩) n m)::l2)) (H'.set o (.res (iP ⟨b,off,none⟩ xs)))):aj P [] f args H K:=aj.VH .tuple (fun _ _ _=>Iff.rfl) c hk
end Go.Proofs.YtmbdghclhpboaaaGreat.Ev
namespace Go.Proofs.YtmbdghclhpboaaaGreat.Ev
section
variable{P:Program}{E:Env}{m:Bool}{S:List Nat}{t:aE}{H:List ai}{K:AV->List ai->Prop}
theorem al.eU{ty:TypeId}{r:dd}{x i:Operand}{l:List UInt8}{q:IntKind}{z:Int}{k:Nat}(hr:E.ty ty=some r)(hu:r.bp=.string)(hx:aL t x=some (.lit (.string ⟨l.toArray⟩)))(hi:aL t i=some (.lit (.int q z)))(hz:z=(k:Int))(hk:k<l.length)(h:K (.lit (.int .u8 (l[k].toNat:Int))) H):al E P m S t H (.index ty x i) K:=.ev
 ⟨.pure (.lit (.int .u8 (l[k].toNat:Int))),by
  subst hz;have e:(⟨l.toArray⟩:ByteArray).data.toList[k]?=some l[k]:=List.getElem?_eq_getElem hk;have e2:l5 (.lit (.int q (k:Int)))=some k:=rfl;simp only[bK,hr,hx,hi,hu,e2,e],h⟩
theorem Sn(l:List UInt8)(i j:Nat):(ByteArray.mk l.toArray).extract i j=⟨((l.take j).drop i).toArray⟩:=by
 apply ByteArray.ext;apply Array.ext';rw[Lib.extract_data (ByteArray.mk l.toArray) i j];show (l.drop i).take (j - i)=(l.take j).drop i
 rw[List.drop_take]
theorem al.y5{ty:TypeId}{r:dd}{x lo hi:Operand}{l:List UInt8}{q q':IntKind}{z z':Int}{i j:Nat}(hr:E.ty ty=some r)(hu:r.bp=.string)(hx:aL t x=some (.lit (.string ⟨l.toArray⟩)))(Xp:aL t lo=some (.lit (.int q z)))(Xl:aL t hi=some (.lit (.int q' z')))(hz:z=(i:Int))(Qu:z'=(j:Int))(pS:i<=j)(hj:j<=l.length)(h:K (.lit (.string ⟨((l.take j).drop i).toArray⟩)) H):al E P m S t H (.slice ty x (some lo) (some hi) none) K:=.ev
 ⟨.pure (.lit (.string ⟨((l.take j).drop i).toArray⟩)),by
  subst hz Qu;have e1:l5 (.lit (.int q (i:Int)))=some i:=rfl;have e2:l5 (.lit (.int q' (j:Int)))=some j:=rfl;have e3:Nat.ble j (ByteArray.mk l.toArray).size=true:=Nat.ble_eq_true_of_le hj;have e4:Nat.ble i j=true:=Nat.ble_eq_true_of_le pS;simp only[bK,hx,rk,Xp,Xl,AH,hr,hu,oL,HZ,yr,IW,yL,De,e1,e2,e3,e4,Sn,Option.map_some],h⟩
end
theorem add_add(a:Addr)(i j:Nat):(a.add i).add j=a.add (i+j):=by
 unfold Addr.add;by_cases hi:i=0<;>by_cases hj:j=0<;>simp[hi,hj,Nat.add_assoc]
theorem Bh{P:Program}{a:Addr}{w:World}:∀(n i:Nat) (acc r:Array Value) (w':World),(loadCellsFrom a i n acc).run P w=.ok r w'->∃cs:List Value,r.toList=acc.toList++cs/\∀(j:Nat) u,cs[j]?=some u->(load (a.add (i+j))).run P w=.ok u w
 | 0,i,acc,r,w',h=>by
   simp only[loadCellsFrom,Sem.run_pure,Result.ok.injEq] at h;exact ⟨[],by rw[h.1];simp,by simp⟩
 | n+1,i,acc,r,w',h=>by
   rw[loadCellsFrom,Sem.run_bind] at h;have hw:∀v w1,(load (a.add i)).run P w=.ok v w1->w1=w:=fun v w1 h=>by
    rw[run_load] at h;split at h
    ·simp only[Result.ok.injEq] at h;exact h.2.symm
    ·split at h
     ·simp only[Result.ok.injEq] at h;exact h.2.symm
     ·cases h
   cases hc:(load (a.add i)).run P w with
   | ok v w1=>
     have xg:=hw v w1 hc;subst xg;rw[hc] at h;simp only[Result.andThen_ok] at h;obtain ⟨cs,h1,h2⟩:=Bh n (i+1) (acc.push v) r w' h;refine ⟨v::cs,by rw[h1];simp,fun j u hj=>?_⟩;cases j with
     | zero=>simp only[List.getElem?_cons_zero,Option.some.injEq] at hj;subst hj;exact hc
     | succ j=>
       simp only[List.getElem?_cons_succ] at hj;have:=h2 j u hj;rwa [show i+1+j=i+(j+1) by omega] at this
   | _=>rw[hc] at h;simp[Result.andThen] at h
theorem Bi{P:Program}{a:Addr}{w:World}:∀(cs:List Value) (i:Nat) (acc:Array Value),(∀(j:Nat) u,cs[j]?=some u->(load (a.add (i+j))).run P w=.ok u w)->(loadCellsFrom a i cs.length acc).run P w=.ok (acc++cs.toArray) w
 | [],i,acc,h=>by simp[loadCellsFrom,Sem.run_pure]
 | v::cs,i,acc,h=>by
   simp only[List.length_cons];rw[loadCellsFrom,Sem.run_bind,show (load (a.add i)).run P w=.ok v w from h 0 v rfl,Result.andThen_ok,Bi cs (i+1) (acc.push v) fun j u hj=>by
    have:=h (j+1) u (by simpa using hj);rwa [show i+(j+1)=i+1+j by omega] at this]
   simp
section
variable{P:Program}{E:Env}(hE:cL P E){α:Type}{R:aC}{ty size:Nat}{a:Addr}{enc:α->List Value}{l:List α}(h:lg P R ty size a (fun x=>.agg (enc x).toArray) l)(kW:∃r,E.ty ty=some r/\bQ r.bp=true){i j:Nat}(hi:i<l.length)
include hE h kW
theorem lg.cell{u:Value}(hu:(enc l[i])[j]?=some u)(w:World)(S:Nat->Prop)(hw:R.at_ w S):(load ((a.add (i * size)).add j)).run P w=.ok u w:=by
 obtain ⟨r,hr,nA⟩:=kW;have h1:=h w S hw i hi;unfold loadVar at h1;rw[Sem.run_bind,qD hE hr w,nA] at h1;simp only[Result.andThen_ok,if_true,Sem.run_bind,bY hE hr w] at h1;unfold loadCells at h1;cases hl:(loadCellsFrom (a.add (i * size)) 0 r.info.size #[]).run P w with
 | ok cs w'=>
   rw[hl] at h1;simp only[Result.andThen_ok,Sem.run_pure,Result.ok.injEq,Value.agg.injEq] at h1;obtain ⟨Nu,e1,e2⟩:=Bh _ _ _ _ _ hl;have e3:Nu=enc l[i]:=by
    have:=congrArg Array.toList h1.1;rw[e1] at this;simpa using this
   rw[<-e3] at hu;have:=e2 j u hu;rwa [Nat.zero_add] at this
 | _=>rw[hl] at h1;simp[Result.andThen] at h1
theorem lg.j8{ty2:Nat}{u:Value}(h2:∃r,E.ty ty2=some r/\bQ r.bp=false)(hu:(enc l[i])[j]?=some u)(w:World)(S:Nat->Prop)(hw:R.at_ w S):(loadVar ty2 ((a.add (i * size)).add j)).run P w=.ok u w:=by
 obtain ⟨r,hr,nA⟩:=h2;have hc:=lg.cell hE h kW hi hu w S hw;unfold loadVar;rw[Sem.run_bind,qD hE hr w,nA];simp only[Result.andThen_ok,Bool.false_eq_true,if_false,hc]
theorem lg.zu{ty2 n2:Nat}{cs:List Value}(h2:∃r,E.ty ty2=some r/\r.info.size=n2/\bQ r.bp=true)(hn:n2=cs.length)(hu:((enc l[i]).drop j).take n2=cs)(w:World)(S:Nat->Prop)(hw:R.at_ w S):(loadVar ty2 ((a.add (i * size)).add j)).run P w=.ok (.agg cs.toArray) w:=by
 obtain ⟨r,hr,hs,nA⟩:=h2;have hl:(loadCells ((a.add (i * size)).add j) cs.length).run P w=.ok cs.toArray w:=by
  unfold loadCells;rw[Bi cs 0 #[] fun q v hv=>by
   rw[Nat.zero_add,add_add];have:(enc l[i])[j+q]?=some v:=by
    rw[<-hu,List.getElem?_take,List.getElem?_drop] at hv;split at hv
    ·exact hv
    ·cases hv
   have:=lg.cell hE h kW hi this w S hw;rwa [add_add]  at this ⊢]
  simp
 unfold loadVar;rw[Sem.run_bind,qD hE hr w,nA];simp only[Result.andThen_ok,if_true,Sem.run_bind,bY hE hr w,hs,hn,hl,Sem.run_pure]
end
theorem al.Gd{P:Program}{E:Env}(hE:cL P E){S:List Nat}{t:aE}{H:List ai}{K:AV->List ai->Prop}{ty elem:TypeId}{r er:dd}{x i:Operand}{a:Addr}{n k c:Nat}{z:Int}(hr:E.ty ty=some r)(hu:r.bp=.slice elem)(he:E.ty elem=some er)(hx:aL t x=some (.lit (.slice (some a) n c)))(hi:aL t i=some (.lit (.int .i64 z)))(hz:z=(k:Int))(hk:k<n)(h:K (.lit (.pointer (some (a.add (k * er.info.size))))) H):al E P true S t H (.indexAddr ty x i) K:=by
 subst hz;exact al.bC hE hr hu he hx hi hk h
theorem al.JL{P:Program}{E:Env}(hE:cL P E){S:List Nat}{t:aE}{H:List ai}{K:AV->List ai->Prop}{ty elem:TypeId}{r er:dd}{x hi:Operand}{A:Option Addr}{n c j:Nat}{q:IntKind}{z:Int}(hr:E.ty ty=some r)(hu:r.bp=.slice elem)(he:E.ty elem=some er)(hx:aL t x=some (.lit (.slice A n c)))(hh:aL t hi=some (.lit (.int q z)))(hz:z=(j:Int))(hj:j<=c)(h:K (.lit (.slice A j c)) H):al E P true S t H (.slice ty x none (some hi) none) K:=
 ⟨.inr ⟨rfl,⟨fun F γ w ρ hR cE cK bJ o ho=>by
  subst hz;have h1:=bJ x _ (by simp[Op.operands]) hx;have h2:=bJ hi _ (by simp[Op.operands]) hh;rw[au] at h1 h2;refine ⟨_,H,γ,.value (.slice A j c),w,?_,.inl ⟨_,rfl,aS γ _⟩,h,hR,.refl γ _,cE,cK⟩;obtain ⟨dst,op,type,pos,after,guard⟩:=o;simp only[] at ho;subst ho;simp only[execOp];refine dE ?_;simp only[Option.map_some,Option.map_none,h1,h2];have hb:(0:Int)<=(j:Int)/\(j:Int)<=(c:Int):=⟨by omega,by omega⟩;have jD:(sizeOf elem).run P w=.ok er.info.size w:=bY hE he w;have pW:(underlying ty).run P w=.ok (.slice elem) w:=by rw[bn hE hr w,hu]
  unfold Instr.sliceAt;simp only[Sem.run_bind,pW,Result.andThen_ok];unfold Instr.slice;simp only[Instr.sliceBounds,Instr.sliceBound,asIntOf,Sem.run_bind,pW,Result.andThen_ok,Sem.run_pure,if_true,hb,and_self,Int.toNat_natCast,jD,Nat.zero_mul,Option.map_some,Nat.sub_zero,Addr.add_mid,Nat.add_zero,ite_self];rw[show A.map (fun x=>x.add 0)=A by cases A<;>rfl,ite_self]⟩⟩⟩
theorem aj.QG{P:Program}{S:List Nat}{f:Nat}{args:List AV}{H:List ai}{K' K:AV->List ai->Prop}(c:aj P S f args H K')
  (hk:∀v H',K' v H'->K v H'\/∃o w,v=.tuple [.slice o 0 0 (.k 0),w]/\∀a,K (.tuple [.lit (.slice (some a) 0 0),w]) H'):aj P S f args H K:=⟨fun F γ w ys hR cE cK qp=>by
 obtain ⟨c1,c2⟩:=c.out F γ w ys hR cE cK qp;refine ⟨c1,fun R fx=>c2 R fun v H' ay x w' k1 k2 k3=>?_⟩;rcases hk v H' k1 with h|⟨o,u,rfl,h⟩
 ·exact fx v H' ay x w' h k2 k3
 ·obtain ⟨a,rfl,y,ys,h1,h2,h3⟩:=k2;obtain ⟨ad,c,rfl,_,_,rfl⟩:=h2;exact fx _ H' ay _ w' (h ad) ⟨a,rfl,_,ys,h1,aS ay _,h3⟩ k3⟩
abbrev lf(a:AV)(H1:List ai):AV->List ai->Prop:=fun v H'=>v=a/\∃G,H'=H1++G
theorem aj.g{P:Program}{S:List Nat}{f:Nat}{args0 args:List AV}{H0 H H1:List ai}{a:AV}{K:AV->List ai->Prop}(c:oJ P f args0 H0 (lf a H1))(ρ:List Nat)(iD:args=AV.eN (eB ρ) args0)(lV:(eG ρ&&Nat.ble H0.length aY&&ρ.all (fun i=>!nZ S i))=true)(pT:nT (eB ρ) H ρ H0)
  (hK:∀G,Dg ρ [] H (H1++G) a K):aj P S f args H K:=c.use ρ iD lV pT (by
 rintro _ _ ⟨rfl,G,rfl⟩;exact ⟨[],hK G⟩)
end Go.Proofs.YtmbdghclhpboaaaGreat.Ev
namespace Go.Proofs.YtmbdghclhpboaaaGreat
open Ev
abbrev dw(l:List UInt8):Value:=.string ⟨l.toArray⟩
abbrev tLr:TypeId:=417
abbrev WK(F:Nat):AV:=.lit (.func (.func F) #[] #[])
def o5(s:List UInt8)(p:Pt):ai:=.cells [.lit (dw s),iA p.i,iA p.line,iA p.aX] tLr
theorem Un{s:List UInt8}{p:Pt}{i l c:Int}(hi:i=(p.i:Int))(hl:l=(p.line:Int))(hc:c=(p.aX:Int)):ai.cells [.lit (dw s),iA i,iA l,iA c] tLr=o5 s p:=by
 subst hi hl hc;rfl
abbrev sB(F:Nat)(pr:UInt8->Bool):Prop:=∀{S:List Nat} {H:List ai} {K:AV->List ai->Prop} (c:UInt8),K (bA (pr c)) H->CP S F [.lit (.int .u8 (c.toNat:Int))] H K
theorem Ct:sB 396 isLet:=fun c k=>by
 refine aj.pure ?_ (fun _=>rfl) (fun _=>rfl) k;refine ag aa rfl ?_;repeat' ((conv=>whnf);with_reducible apply af<;>intro _)
 all_goals
  refine bc ?_
  simp_all [isLet]
 all_goals omega
theorem Gl:sB 398 cx:=fun c k=>by
 refine aj.pure ?_ (fun _=>rfl) (fun _=>rfl) k;refine ag aa rfl ?_;repeat' ((conv=>whnf);with_reducible apply af<;>intro _)
 all_goals
  refine bc ?_
  simp_all [cx]
 all_goals omega
theorem Mx:sB 473 dj:=fun c k=>by
 refine aj.pure ?_ (fun _=>rfl) (fun _=>rfl) k;unfold dj;cases hl:isLet c<;>cases hd:cx c
 all_goals
  refine ag aa rfl ?_
  repeat' ((conv=>whnf);first|(refine Ct c ?_;rw[hl])|(refine Gl c ?_;rw[hd])|with_reducible apply af<;>intro _)
  all_goals
   refine bc ?_
   simp_all
 all_goals omega
theorem TS:sB 391 ei:=fun c k=>by
 refine aj.pure ?_ (fun _=>rfl) (fun _=>rfl) k;refine ag aa rfl ?_;repeat' ((conv=>whnf);with_reducible apply af<;>intro _)
 all_goals
  refine bc ?_
  simp_all [ei]
 all_goals omega
theorem X3:sB 393 gd:=fun c k=>by
 refine aj.pure ?_ (fun _=>rfl) (fun _=>rfl) k;refine ag aa rfl ?_;repeat' ((conv=>whnf);with_reducible apply af<;>intro _)
 all_goals
  refine bc ?_
  simp_all [gd]
 all_goals omega
theorem TV:sB 394 gM:=fun c k=>by
 refine aj.pure ?_ (fun _=>rfl) (fun _=>rfl) k;refine ag aa rfl ?_;repeat' ((conv=>whnf);with_reducible apply af<;>intro _)
 all_goals
  refine bc ?_
  simp_all [gM]
 all_goals omega
theorem aap:sB 301 (fun _=>true):=fun c k=>by
 refine aj.pure ?_ (fun _=>rfl) (fun _=>rfl) k;refine ag aa rfl ?_;repeat' ((conv=>whnf);with_reducible apply af<;>intro _)
 all_goals rfl
theorem Gf{F:Nat}{pr:UInt8->Bool}(hF:sB F pr){s:List UInt8}{p:Pt}:CP [] 392 [.ptr 0 0,WK F] [o5 s p] (lf (bA (ja pr (s.drop p.i))) [o5 s p]):=by
 by_cases h:p.i<s.length
 ·have e:ja pr (s.drop p.i)=pr s[p.i]:=by rw[List.drop_eq_getElem_cons h];rfl
  rw[e];refine ag aa rfl ?_;repeat' ((conv=>whnf);first|with_reducible apply af<;>intro _|refine aM.drawn aa rfl rfl ?_|with_reducible refine And.intro (aN.mk ⟨_,rfl,rfl⟩) ?_|refine al.eU rfl rfl rfl rfl rfl h ?_|refine hF _ ?_|(exfalso;rename_i hx;exact bT h hx)|refine ag aa rfl ?_)
  all_goals (try conv=>whnf)
  all_goals first|exact ⟨congrArg bA (Eq.symm (by assumption)),_,rfl⟩|exact bT h (by assumption)
 ·have e:ja pr (s.drop p.i)=false:=by rw[List.drop_of_length_le (by omega)];rfl
  rw[e];refine ag aa rfl ?_;repeat' ((conv=>whnf);first|with_reducible apply af<;>intro _|refine aM.drawn aa rfl rfl ?_|with_reducible refine And.intro (aN.mk ⟨_,rfl,rfl⟩) ?_|(exfalso;rename_i hx;exact cF h hx)|refine ag aa rfl ?_)
  all_goals (try conv=>whnf)
  all_goals exact ⟨rfl,_,rfl⟩
theorem K1{s:List UInt8}{p:Pt}(h:p.i<s.length)(hl:s.length<=1000000)(hp:p.low):CP [] 400 [.ptr 0 0] [o5 s p] (lf aQ [o5 s (p.step s[p.i])]):=by
 obtain ⟨h1,h2⟩:=hp;refine ag aa rfl ?_;repeat' ((conv=>whnf);first|with_reducible apply af<;>intro _|refine aM.drawn aa rfl rfl ?_|with_reducible refine And.intro (aN.mk ⟨_,rfl,rfl⟩) ?_|refine al.eU rfl rfl rfl rfl rfl h ?_|refine ag aa rfl ?_)
 all_goals (try conv=>whnf)
 all_goals
  rename_i hx
  simp only[beq_iff_eq,beq_eq_false_iff_ne,ne_eq] at hx
  refine ⟨rfl,[],congrArg (·::[]) (Un ?_ ?_ ?_)⟩
  all_goals unfold Pt.step;simp only[]
  all_goals (try rw[ak (by omega) (by omega)])
 all_goals first|omega|(split<;>omega)
theorem xk{F:Nat}{pr:UInt8->Bool}(hF:sB F pr){s:List UInt8}{p:Pt}(hi:p.i<=s.length)(hl:s.length<=1000000)(hp:p.low):CP [] 300 [.ptr 0 0,WK F] [o5 s p] (lf (.lit (dw ((s.drop p.i).takeWhile pr))) [o5 s (p.jZ ((s.drop p.i).takeWhile pr))]):=by
 obtain ⟨m,hm⟩:∃m,m=(s.drop p.i).takeWhile pr:=⟨_,rfl⟩;have tn:m.length<=s.length - p.i:=by
  have:=eV pr (s.drop p.i);rw[<-hm,List.length_drop] at this;exact this
 have NR:m=(s.drop p.i).take m.length:=by conv=>lhs;rw[hm,qI,<-hm]
 have hcut:(s.take (p.i+m.length)).drop p.i=m:=by
  conv=>rhs;rw[NR]
  rw[List.drop_take,Nat.add_sub_cancel_left]
 rw[<-hm];refine ag aa rfl ?_;conv=>whnf
 refine aV aa rfl (fun k=>[(0,.ptr 0 0),(1,WK F),(5,iA p.i)]) (fun k=>[o5 s (p.jZ (m.take k))]) (·<=m.length) (fun k=>m.length - k) 0 (Nat.zero_le _) [0] ?_ ?_
 ·exact ⟨rfl,⟨rr,rr,rr,tU⟩,⟨⟨_,rfl,rfl⟩,tU⟩⟩
 ·intro k hk;have hmk:(m.take k).length=k:=by rw[List.length_take];omega
  obtain ⟨q,hq⟩:∃q,q=p.jZ (m.take k):=⟨_,rfl⟩;have KM:q.i=p.i+k:=by rw[hq,Pt.u9,hmk]
  have DB:q.low:=by rw[hq];exact Pt.oV _ hp
  have hd:s.drop q.i=(s.drop p.i).drop k:=by rw[KM,List.drop_drop]
  have h1:=Gf hF (s:=s) (p:=q);simp only[];rw[<-hq];by_cases eQ:k<m.length
  ·have hb:ja pr (s.drop q.i)=true:=by rw[hd];exact LK pr _ k (by rw[<-hm];exact eQ)
   have an:q.i<s.length:=by omega
   have he:q.step s[q.i]=p.jZ (m.take (k+1)):=by
    rw[bq eQ,Pt.wH,<-hq];have:s[q.i]=m[k]:=by
     have e1:m[k]?=s[q.i]?:=by rw[NR,List.getElem?_take_of_lt eQ,List.getElem?_drop,KM]
     rw[List.getElem?_eq_getElem eQ,List.getElem?_eq_getElem an] at e1;exact (Option.some.inj e1).symm
    rw[this];rfl
   have h2:=K1 an hl DB;rw[he] at h2;rw[hb] at h1;clear he;repeat' ((conv=>whnf);first|with_reducible apply af<;>intro _|refine aM.drawn aa rfl rfl ?_|with_reducible refine And.intro (aN.mk ⟨_,rfl,rfl⟩) ?_|refine h1.g [0] rfl rfl ⟨⟨_,rfl,rfl⟩,tU⟩ fun G=>?_|refine h2.g [0] rfl rfl ⟨⟨_,rfl,rfl⟩,tU⟩ fun G=>?_|refine ag aa rfl ?_)
   all_goals (try conv=>whnf)
   exact ⟨k+1,[0],⟨eQ,by omega⟩,rfl,⟨rr,rr,rr,tU⟩,⟨⟨_,rfl,rfl⟩,tU⟩⟩
  ·obtain rfl:k=m.length:=by omega
   rw[List.take_length] at hq;have hb:ja pr (s.drop q.i)=false:=by
    rw[hd,hm];exact AL pr _
   rw[hb] at h1;rw[<-hq];repeat' ((conv=>whnf);first|with_reducible apply af<;>intro _|refine aM.drawn aa rfl rfl ?_|with_reducible refine And.intro (aN.mk ⟨_,rfl,rfl⟩) ?_|refine h1.g [0] rfl rfl ⟨⟨_,rfl,rfl⟩,tU⟩ fun G=>?_|(refine al.y5 rfl rfl rfl rfl rfl rfl (congrArg Int.ofNat KM) (by omega) (by omega) ?_;rw[hcut])|refine ag aa rfl ?_)
   all_goals (try conv=>whnf)
   exact ⟨rfl,_,rfl⟩
theorem M8:∀(l:List UInt8),l.takeWhile (fun _=>true)=l
 | []=>rfl
 | c::l=>congrArg (c::·) (M8 l)
theorem Gg{s:List UInt8}{p:Pt}:CP [] 297 [.ptr 0 0] [o5 s p] (lf (.agg [iA p.line,iA p.aX]) [o5 s p]):=by
 refine ag aa rfl ?_;repeat' ((conv=>whnf);first|with_reducible apply af<;>intro _|refine aM.drawn aa rfl rfl ?_|with_reducible refine And.intro (aN.mk ⟨_,rfl,rfl⟩) ?_ )
 all_goals (try conv=>whnf)
 exact ⟨rfl,_,rfl⟩
theorem Ge{s:List UInt8}:CP [] 296 [.lit (dw s)] [] (lf (.ptr 0 0) [o5 s Pt.zero]):=by
 refine ag aa rfl ?_;repeat' ((conv=>whnf);with_reducible apply af<;>intro _)
 all_goals (try conv=>whnf)
 exact ⟨rfl,_,rfl⟩
theorem aas{s:List UInt8}{S:List Nat}{H:List ai}{K:AV->List ai->Prop}(hs:s.length<=1000000)(k:K (.agg [iA (kM s).line,iA (kM s).aX]) H):CP S 218 [.lit (dw s)] H K:=by
 refine aj.pure ?_ (fun _=>rfl) (fun _=>rfl) k;have h2:=xk aap (s:=s) (p:=Pt.zero) (Nat.zero_le _) hs Pt.yG;have h3:=Gg (s:=s) (p:=kM s);have e:(s.drop Pt.zero.i).takeWhile (fun _=>true)=s:=by
  exact M8 s
 rw[e] at h2;change CP [] _ _ _ (lf _ [o5 s (kM s)]) at h2;obtain ⟨q,hq⟩:∃q,q=kM s:=⟨_,rfl⟩;rw[<-hq] at h2 h3 ⊢;clear e;refine ag aa rfl ?_;repeat' ((conv=>whnf);first|with_reducible apply af<;>intro _|refine (Ge (s:=s)).use [] rfl rfl trivial ?_;rintro _ _ ⟨rfl,G,rfl⟩;refine ⟨[0],?_⟩|refine h2.g [1] rfl rfl ⟨⟨_,rfl,rfl⟩,tU⟩ fun G=>?_|refine h3.g [1] rfl rfl ⟨⟨_,rfl,rfl⟩,tU⟩ fun G=>?_|refine ag aa rfl ?_)
 all_goals (try conv=>whnf)
 all_goals rfl
theorem XZ{s:List UInt8}{p:Pt}(hi:p.i<=s.length)(hl:s.length<=1000000)(hp:p.low):CP [] 298 [.ptr 0 0] [o5 s p] (lf aQ [o5 s (p.jZ ((s.drop p.i).take (eM (s.drop p.i))))]):=by
 obtain ⟨tg,F6⟩:∃tg,tg=p.jZ ((s.drop p.i).take (eM (s.drop p.i))):=⟨_,rfl⟩;rw[<-F6];refine ag aa rfl ?_;conv=>whnf
 refine aV aa rfl (fun _=>[(0,.ptr 0 0)]) (fun q=>[o5 s q]) (fun q=>q.i<=s.length/\q.low/\q.jZ ((s.drop q.i).take (eM (s.drop q.i)))=tg) (fun q=>s.length - q.i) p ⟨hi,hp,F6.symm⟩ [0] ?_ ?_
 ·exact ⟨rfl,⟨rr,tU⟩,⟨⟨_,rfl,rfl⟩,tU⟩⟩
 ·rintro q ⟨yw,sj,IH⟩;obtain ⟨l,tm⟩:∃l,l=s.drop q.i:=⟨_,rfl⟩;have oS:l.length=s.length - q.i:=by rw[tm,List.length_drop]
  have h1:=xk TS yw hl sj;rw[<-tm] at IH h1;obtain ⟨a,ha⟩:∃a,a=l.takeWhile ei:=⟨_,rfl⟩;have hal:a.length<=l.length:=by rw[ha];exact eV _ _
  have dO:l.take a.length=a:=by rw[ha];exact (qI ei l).symm
  rw[<-ha] at h1;obtain ⟨q1,BX⟩:∃q1,q1=q.jZ a:=⟨_,rfl⟩;have Z4:q1.i=q.i+a.length:=by rw[BX,Pt.u9]
  have VB:q1.low:=by rw[BX];exact Pt.oV _ sj
  have sh:s.drop q1.i=l.drop a.length:=by rw[Z4,tm,List.drop_drop]
  rw[<-BX] at h1;have h2:=Gf X3 (s:=s) (p:=q1);rw[sh] at h2;have Aa:=EW l;rw[<-ha] at Aa;have h3:=xk TV (s:=s) (p:=q1) (by omega) hl VB;rw[sh] at h3;obtain ⟨l2,hJ⟩:∃l2,l2=l.drop a.length:=⟨_,rfl⟩;rw[<-hJ] at h2 h3 Aa sh;have acx:l2.length=l.length - a.length:=by rw[hJ,List.length_drop]
  obtain ⟨b,hb⟩:∃b,b=l2.takeWhile gM:=⟨_,rfl⟩;have BN:b.length<=l2.length:=by rw[hb];exact eV _ _
  have hbt:l2.take b.length=b:=by rw[hb];exact (qI gM l2).symm
  have Zx:ja gd l2=true->0<b.length:=fun h=>by rw[hb];exact pD _ h
  rw[<-hb] at h3 Aa;obtain ⟨q2,Eg⟩:∃q2,q2=q1.jZ b:=⟨_,rfl⟩;have Z5:q2.i=q1.i+b.length:=by rw[Eg,Pt.u9]
  have Z6:q2.low:=by rw[Eg];exact Pt.oV _ VB
  rw[<-Eg] at h3;have Dx:s.drop q2.i=l2.drop b.length:=by rw[Z5,<-sh,List.drop_drop]
  clear ha hb;cases hc:ja gd l2 with
  | true=>
    rw[hc] at h2;have Zx:=Zx hc;rw[hc,if_pos rfl] at Aa;have ht:q2.jZ ((s.drop q2.i).take (eM (s.drop q2.i)))=tg:=by
     rw[Dx,<-IH,Aa,Nat.add_assoc,List.take_add,dO,<-hJ,List.take_add,hbt,Pt.wH,Pt.wH,<-BX,<-Eg]
    clear sh Dx tm hJ BX Eg IH F6;repeat' ((conv=>whnf);first|with_reducible apply af<;>intro _|refine h1.g [0] rfl rfl ⟨⟨_,rfl,rfl⟩,tU⟩ fun G=>?_|refine h2.g [0] rfl rfl ⟨⟨_,rfl,rfl⟩,tU⟩ fun G=>?_|refine h3.g [0] rfl rfl ⟨⟨_,rfl,rfl⟩,tU⟩ fun G=>?_|refine ag aa rfl ?_)
    all_goals (try conv=>whnf)
    exact ⟨q2,[0],⟨⟨by omega,Z6,ht⟩,by omega⟩,rfl,⟨rr,tU⟩,⟨⟨_,rfl,rfl⟩,tU⟩⟩
  | false=>
    rw[hc] at h2;rw[hc,if_neg (by simp)] at Aa;have ht:q1=tg:=by rw[<-IH,Aa,dO,<-BX]
    rw[ht] at h1 h2;clear sh Dx tm hJ BX Eg IH F6;repeat' ((conv=>whnf);first|with_reducible apply af<;>intro _|refine h1.g [0] rfl rfl ⟨⟨_,rfl,rfl⟩,tU⟩ fun G=>?_|refine h2.g [0] rfl rfl ⟨⟨_,rfl,rfl⟩,tU⟩ fun G=>?_|refine ag aa rfl ?_)
    all_goals (try conv=>whnf)
    exact ⟨rfl,_,rfl⟩
theorem o9{a b:List UInt8}:((⟨a.toArray⟩:ByteArray).toList==(⟨b.toArray⟩:ByteArray).toList)=decide (a=b):=by
 rw[Bool.eq_iff_iff,beq_iff_eq,decide_eq_true_iff];simp[ByteArray.toList_eq]
theorem So{s:List UInt8}{S:List Nat}{H:List ai}{K:AV->List ai->Prop}(k:K (bA (isWord s)) H):CP S 474 [.lit (dw s)] H K:=by
 refine aj.pure ?_ (fun _=>rfl) (fun _=>rfl) k;refine ag aa rfl ?_;repeat' ((conv=>whnf);first|with_reducible apply af<;>intro _|refine aV aa rfl (fun k=>[(0,.lit (dw s)),(3,bA false),(6,.agg (wD.map fun w=>.lit (dw w))),(7,iA (k:Nat))]) (fun _=>[]) (fun k=>k<=11/\isWord s=(wD.drop k).any (fun w=>decide (s=w))) (fun k=>11 - k) 0 ⟨Nat.zero_le _,rfl⟩ [] ?_ ?_|refine ag aa rfl ?_)
 ·exact ⟨rfl,⟨rr,rr,rr,rr,tU⟩,tU⟩
 ·rintro k ⟨hk,he⟩;have hk:k=0\/k=1\/k=2\/k=3\/k=4\/k=5\/k=6\/k=7\/k=8\/k=9\/k=10\/k=11:=by omega
  obtain ⟨b,hb⟩:∃b,b=isWord s:=⟨_,rfl⟩;rw[<-hb] at he ⊢;rcases hk with rfl|rfl|rfl|rfl|rfl|rfl|rfl|rfl|rfl|rfl|rfl|rfl;all_goals repeat' ((conv=>whnf);first|with_reducible apply af<;>intro _  | refine ag aa rfl ?_)
  all_goals (try conv=>whnf)
  all_goals first
   | exact bc he.symm
   | (rename_i hx;rw[o9] at hx;exact bc (by rw[he];show _=(decide (s=_) || _);rw[hx];rfl))
   | (rename_i hx;rw[o9] at hx;exact ⟨_,[],⟨⟨by decide,by rw[he];show (decide (s=_) || _)=_;rw[hx];rfl⟩,by decide⟩,rfl,⟨rr,rr,rr,rr,tU⟩,tU⟩)
def pn(t:Tk):List Value:=[.int .i64 (t.kind:Int),dw t.text,.int .i64 (t.n:Int),.int .i64 (t.line:Int),.int .i64 (t.aX:Int)]
abbrev o8:TypeId:=265
abbrev E8(t:Tk):List AV:=(pn t).map .lit
theorem uc(t:Tk):(pn t).length=5:=rfl
theorem vJ(s:List UInt8)(c:UInt8):r6 (s++[c])=min 65536 (10 * r6 s+(c.toNat - 48)):=by
 unfold r6;rw[List.foldl_append];rfl
theorem QQ(s:List UInt8):r6 s<=65536:=by
 rcases List.eq_nil_or_concat s with rfl|⟨l,c,rfl⟩
 ·simp[r6]
 ·rw[List.concat_eq_append,vJ];omega
theorem N3{n:Nat}{c:UInt8}(hn:n<=65536)(hc:cx c=true):(if IntKind.i64.wrap (IntKind.i64.wrap (10 * (n:Int))+IntKind.i64.wrap (IntKind.u8.wrap ((c.toNat:Int) - 48)))<65536 then IntKind.i64.wrap (IntKind.i64.wrap (10 * (n:Int))+IntKind.i64.wrap (IntKind.u8.wrap ((c.toNat:Int) - 48))) else 65536)=((min 65536 (10 * n+(c.toNat - 48)):Nat):Int):=by
 unfold cx at hc;have hc:=dT1 hc;rw[IntWalk.u8_in _ (by omega),ak (n:=(c.toNat:Int) - 48) (by omega) (by omega),ak (n:=10 * (n:Int)) (by omega) (by omega),ak (by omega) (by omega)];split<;>omega
theorem Sk{s:List UInt8}(hd:∀c∈s,cx c=true)(hl:s.length<=1000000){S:List Nat}{H:List ai}{K:AV->List ai->Prop}(k:K (.tuple [iA (lC s).1,bA (lC s).2]) H):CP S 475 [.lit (dw s)] H K:=by
 refine aj.pure ?_ (fun _=>rfl) (fun _=>rfl) k;have hh:∀h:0<s.length,s.headD 0=s[0]:=fun h=>by
  cases s with
  | nil=>simp at h
  | cons c r=>rfl
 by_cases h0:1<s.length/\s.headD 0=48
 ·have e:lC s=(0,false):=by unfold lC;rw[if_pos h0]
  rw[e];obtain ⟨h1,h2⟩:=h0;have h3:0<s.length:=by omega
  rw[hh h3] at h2;refine ag aa rfl ?_;repeat' ((conv=>whnf);first|with_reducible apply af<;>intro _|(refine al.eU (k:=0) rfl rfl rfl rfl rfl h3 ?_;rw[h2])|(exfalso;rename_i hx;exact bT h1 hx)|refine ag aa rfl ?_)
  all_goals (try conv=>whnf)
  all_goals rfl
 ·have e:lC s=(r6 s,decide (r6 s<=65535)):=by unfold lC;rw[if_neg h0]
  rw[e];clear e k;refine ag aa rfl ?_;repeat' ((conv=>whnf);first|with_reducible apply af<;>intro _|(rename_i hx;have h1:1<s.length:=Int.ofNat_lt.1 (dT1 hx);refine al.eU (k:=0) rfl rfl rfl rfl rfl (by omega) ?_)|(refine aV aa rfl (fun k=>[(0,.lit (dw s)),(4,iA (r6 (s.take k))),(15,iA s.length),(16,iA (k:Nat))]) (fun _=>[]) (·<=s.length) (fun k=>s.length - k) 0 (Nat.zero_le _) [] ⟨rfl,⟨rr,rr,rr,rr,tU⟩,tU⟩ ?_;intro k hk;by_cases eQ:k<s.length)|refine al.eU rfl rfl rfl rfl rfl eQ ?_|refine ag aa rfl ?_)
  all_goals (try conv=>whnf)
  all_goals first
   | (exfalso;rename_i hy;refine h0 ⟨by assumption,?_⟩;rw[hh (by omega)];exact UInt8.toNat_inj.1 (Int.ofNat.inj (eq_of_beq hy)))
   | exact ⟨_,[],⟨eQ,Nat.sub_lt_sub_left eQ (Nat.lt_succ_self _)⟩,rfl,⟨rr,⟨rfl,ax rfl (by rw[N3 (QQ _) (hd _ (List.getElem_mem eQ)),<-vJ,<-bq eQ])⟩,⟨rfl,rfl⟩,⟨rfl,ax rfl (ak (by omega) (by omega))⟩,tU⟩,tU⟩
   | (exfalso;exact bT eQ (by assumption))
   | (exfalso;exact cF eQ (by assumption))
   | (rename_i hx;rw[List.take_of_length_le (by omega)] at hx ⊢;refine congrArg (fun b=>AV.tuple [iA (r6 s),bA b]) ?_;rw[<-hx];exact decide_eq_decide.2 (by omega))
theorem GR(pr:UInt8->Bool):∀(l:List UInt8),∀c∈l.takeWhile pr,pr c=true
 | [],c,h=>by cases h
 | a::l,c,h=>by
   rw[List.takeWhile_cons] at h;split at h
   ·rcases List.mem_cons.1 h with rfl|h
    ·assumption
    ·exact GR pr l c h
   ·cases h
theorem TG{l:List UInt8}{i:Nat}(h:i<l.length)(hl:l.length<=1000000)(hx:(IntKind.i64.wrap ((i:Int)+1)==(l.length:Int))=false):i+1<l.length:=by
 rw[ak (by omega) (by omega),beq_eq_false_iff_ne] at hx;omega
theorem TF{l:List UInt8}{i:Nat}{X:Prop}(h:i+1<l.length)(hl:l.length<=1000000)(hx:(IntKind.i64.wrap ((i:Int)+1)==(l.length:Int))=true):X:=by
 rw[ak (by omega) (by omega),beq_iff_eq] at hx;omega
def Fh(s:List UInt8)(p:Pt):AV->List ai->Prop:=fun v H'=>v=.tuple [.agg (E8 (cH (s.drop p.i)).1),iA (cH (s.drop p.i)).2]/\∃q G,((cH (s.drop p.i)).2=0->q=p.jZ ((s.drop p.i).take (cH (s.drop p.i)).1.text.length))/\H'=o5 s q::G
section
variable{s:List UInt8}{p:Pt}(h:p.i<s.length)(hl:s.length<=1000000)(hp:p.low)
include h hl hp
theorem XW(hc:isLet s[p.i]=true):CP [] 397 [.ptr 0 0] [o5 s p] (Fh s p):=by
 have h1:=xk Mx (s:=s) (p:=p) (by omega) hl hp;have e:cH (s.drop p.i)=(⟨if isWord ((s.drop p.i).takeWhile dj) then 2 else 1,(s.drop p.i).takeWhile dj,0,0,0⟩,if 16<((s.drop p.i).takeWhile dj).length then 2 else 0):=by
  rw[List.drop_eq_getElem_cons h];unfold cH;simp only[hc,if_true]
 have e2:=qI dj (s.drop p.i);unfold Fh;rw[e];simp only[];rw[<-e2];obtain ⟨w,hw⟩:∃w,w=(s.drop p.i).takeWhile dj:=⟨_,rfl⟩;rw[<-hw] at h1 ⊢;clear e e2 hw;by_cases z5:16<w.length<;>cases hb:isWord w;all_goals first|rw[if_pos z5]|rw[if_neg z5]
 all_goals
  refine ag aa rfl ?_
  repeat' ((conv=>whnf);first|with_reducible apply af<;>intro _|refine h1.g [0] rfl rfl ⟨⟨_,rfl,rfl⟩,tU⟩ fun G=>?_|(refine So ?_;rw[hb])|(exfalso;first|exact bT z5 (by assumption)|exact cF z5 (by assumption))|refine ag aa rfl ?_)
  all_goals (try conv=>whnf)
  all_goals first
   | exact ⟨rfl,_,_,fun _=>rfl,rfl⟩
   | (exfalso;rename_i hx;have:=dT1 hx;omega)
   | (exfalso;rename_i hx;have:=dF1 hx;omega)
theorem ldigits(hc:isLet s[p.i]=false)(hd:cx s[p.i]=true):CP [] 399 [.ptr 0 0] [o5 s p] (Fh s p):=by
 have h1:=xk Gl (s:=s) (p:=p) (by omega) hl hp;have e:cH (s.drop p.i)=if (lC ((s.drop p.i).takeWhile cx)).2 then (⟨3,(s.drop p.i).takeWhile cx,(lC ((s.drop p.i).takeWhile cx)).1,0,0⟩,0) else (⟨3,(s.drop p.i).takeWhile cx,0,0,0⟩,10):=by
  rw[List.drop_eq_getElem_cons h];unfold cH;simp only[hc,hd,if_true,Bool.false_eq_true,if_false]
 have e2:=qI cx (s.drop p.i);have e3:=eV cx (s.drop p.i);have e4:∀c∈(s.drop p.i).takeWhile cx,cx c=true:=GR cx _;rw[List.length_drop] at e3;unfold Fh;rw[e];obtain ⟨w,hw⟩:∃w,w=(s.drop p.i).takeWhile cx:=⟨_,rfl⟩;rw[<-hw] at h1 e2 e3 e4 ⊢;have h2:=@Sk w e4 (by omega);clear e hw;cases hb:(lC w).2
 all_goals
  simp only[if_true,Bool.false_eq_true,if_false]
  rw[hb] at h2
  try rw[<-e2]
  clear e2
  refine ag aa rfl ?_
  repeat' ((conv=>whnf);first|with_reducible apply af<;>intro _|refine h1.g [0] rfl rfl ⟨⟨_,rfl,rfl⟩,tU⟩ fun G=>?_|refine h2 ?_|refine ag aa rfl ?_)
  all_goals (try conv=>whnf)
  all_goals first
   | exact ⟨rfl,_,_,fun _=>rfl,rfl⟩
   | exact ⟨rfl,_,_,fun h=>(nomatch h),rfl⟩
theorem XV(hc:isLet s[p.i]=false)(hd:cx s[p.i]=false):CP [] 395 [.ptr 0 0] [o5 s p] (Fh s p):=by
 obtain ⟨r,hr⟩:∃r,r=s.drop (p.i+1):=⟨_,rfl⟩;have e:cH (s.drop p.i)=if s[p.i].toNat=61\/s[p.i].toNat=43\/s[p.i].toNat=59 then (⟨4,[s[p.i]],0,0,0⟩,0) else if s[p.i].toNat=46/\r.head?=some 46 then (⟨4,[46,46],0,0,0⟩,0) else (Tk.none,30):=by
  rw[List.drop_eq_getElem_cons h,<-hr];unfold cH;simp only[hc,hd,Bool.false_eq_true,if_false]
 have h1:=K1 h hl hp;unfold Fh;rw[e];by_cases hm:s[p.i].toNat=61\/s[p.i].toNat=43\/s[p.i].toNat=59
 ·rw[if_pos hm];have e5:(s.drop p.i).take 1=[s[p.i]]:=by rw[List.drop_eq_getElem_cons h];rfl
  have e6:(s.take (p.i+1)).drop p.i=[s[p.i]]:=by rw[List.drop_take,Nat.add_sub_cancel_left,e5]
  simp only[List.length_cons,List.length_nil,Nat.zero_add,e5];change CP [] _ _ _ (lf _ [o5 s (p.jZ [s[p.i]])]) at h1;refine ag aa rfl ?_;repeat' ((conv=>whnf);first|with_reducible apply af<;>intro _|refine aM.drawn aa rfl rfl ?_|with_reducible refine And.intro (aN.mk ⟨_,rfl,rfl⟩) ?_|refine al.eU rfl rfl rfl rfl rfl h ?_|(exfalso;omega)|(refine al.y5 (i:=p.i) (j:=p.i+1) rfl rfl rfl rfl rfl rfl (ak (by omega) (by omega)) (by omega) (by omega) ?_;rw[e6])|refine bS.loop 2 (bS.step aa rfl ?_)|refine bS.step aa rfl ?_|refine h1.g [0] rfl rfl ⟨⟨_,rfl,rfl⟩,tU⟩ fun G=>?_|refine ag aa rfl ?_)
  all_goals (try conv=>whnf)
  all_goals first
   | exact ⟨rfl,_,_,fun _=>rfl,rfl⟩
   | (exfalso;simp_all;omega)
 ·rw[if_neg hm];have kH:∀h2:p.i+1<s.length,r.head?=some s[p.i+1]:=fun h2=>by rw[hr,List.drop_eq_getElem_cons h2];rfl
  have qo:s.length<=p.i+1->r=[]:=fun h2=>by rw[hr,List.drop_of_length_le h2]
  by_cases hn:s[p.i].toNat=46/\r.head?=some 46
  ·rw[if_pos hn];have h2:p.i+1<s.length:=by
    rcases Nat.lt_or_ge (p.i+1) s.length with h2|h2
    ·exact h2
    ·rw[qo h2] at hn;cases hn.2
   have hb:s[p.i+1]=46:=by rw[kH h2] at hn;exact Option.some.inj hn.2
   have wY:s[p.i]=46:=UInt8.toNat_inj.1 (by rw[hn.1];rfl);have e5:(s.drop p.i).take 2=[s[p.i],s[p.i+1]]:=by rw[List.drop_eq_getElem_cons h,List.drop_eq_getElem_cons h2];rfl
   have e6:(s.take (p.i+2)).drop p.i=[46,46]:=by rw[List.drop_take,Nat.add_sub_cancel_left,e5,hb,wY]
   simp only[List.length_cons,List.length_nil,Nat.zero_add,e5];have h3:=K1 (s:=s) (p:=p.step s[p.i]) h2 hl (Pt.Em hp _);change CP [] _ _ _ (lf _ [o5 s (p.jZ [s[p.i],s[p.i+1]])]) at h3;rw[wY] at h1 h3;rw[hb] at h3;rw[wY,hb];refine ag aa rfl ?_;repeat' ((conv=>whnf);first|with_reducible apply af<;>intro _|refine aM.drawn aa rfl rfl ?_|with_reducible refine And.intro (aN.mk ⟨_,rfl,rfl⟩) ?_|(refine al.eU (k:=p.i) rfl rfl rfl rfl rfl h ?_;rw[wY])|(refine al.eU (k:=p.i+1) rfl rfl rfl rfl (ak (by omega) (by omega)) h2 ?_;rw[hb])|(exfalso;omega)|(refine al.y5 (i:=p.i) (j:=p.i+2) rfl rfl rfl rfl rfl rfl (ak (by omega) (by omega)) (by omega) (by omega) ?_;rw[e6])|refine bS.loop 3 (bS.step aa rfl ?_)|refine bS.step aa rfl ?_|refine h1.g [0] rfl rfl ⟨⟨_,rfl,rfl⟩,tU⟩ fun G=>?_|refine h3.g [0] rfl rfl ⟨⟨_,rfl,rfl⟩,tU⟩ fun G=>?_|refine ag aa rfl ?_)
   all_goals (try conv=>whnf)
   ·exact TF h2 hl (by assumption)
   ·exact ⟨rfl,_,_,fun _=>rfl,rfl⟩
  ·rw[if_neg hn];refine ag aa rfl ?_;repeat' ((conv=>whnf);first|with_reducible apply af<;>intro _|refine aM.drawn aa rfl rfl ?_|with_reducible refine And.intro (aN.mk ⟨_,rfl,rfl⟩) ?_|(refine al.eU (k:=p.i) rfl rfl rfl rfl rfl h ?_)|(exfalso;simp only[beq_iff_eq,beq_eq_false_iff_ne,ne_eq] at *;omega)|(rename_i hx;have h2:=TG h hl hx;refine al.eU (k:=p.i+1) rfl rfl rfl rfl (ak (by omega) (by omega)) h2 ?_)|refine ag aa rfl ?_)
   all_goals (try conv=>whnf)
   all_goals first
    | exact ⟨rfl,_,_,fun h=>(nomatch h),rfl⟩
    | (exfalso;rename_i hz hy;refine hn ⟨Int.ofNat.inj (eq_of_beq hz),?_⟩;rw[kH h2];exact congrArg some (UInt8.toNat_inj.1 (Int.ofNat.inj (by simpa using hy))))
    | trace_state
theorem XX:CP [] 299 [.ptr 0 0] [o5 s p] (Fh s p):=by
 have h1:=Gf Ct (s:=s) (p:=p);have h2:=Gf Gl (s:=s) (p:=p);have e:∀pr:UInt8->Bool,ja pr (s.drop p.i)=pr s[p.i]:=fun pr=>by rw[List.drop_eq_getElem_cons h];rfl
 rw[e] at h1 h2;clear e;have h3:=XW h hl hp;have h4:=ldigits h hl hp;have h5:=XV h hl hp;cases hb:isLet s[p.i]<;>cases hd:cx s[p.i]
 all_goals
  rw[hb] at h1
  rw[hd] at h2
  unfold Fh at h3 h4 h5 ⊢
  obtain ⟨t,ht⟩:∃t,t=cH (s.drop p.i):=⟨_,rfl⟩
  rw[<-ht] at h3 h4 h5 ⊢
  refine ag aa rfl ?_
  repeat' ((conv=>whnf);first|with_reducible apply af<;>intro _|refine h1.g [0] rfl rfl ⟨⟨_,rfl,rfl⟩,tU⟩ fun G=>?_|refine h2.g [0] rfl rfl ⟨⟨_,rfl,rfl⟩,tU⟩ fun G=>?_|(refine (h3 hb).use [0] rfl rfl ⟨⟨_,rfl,rfl⟩,tU⟩ ?_;rintro _ _ ⟨rfl,q,G,hq,rfl⟩;refine ⟨[],?_⟩)|(refine (h4 hb hd).use [0] rfl rfl ⟨⟨_,rfl,rfl⟩,tU⟩ ?_;rintro _ _ ⟨rfl,q,G,hq,rfl⟩;refine ⟨[],?_⟩)|(refine (h5 hb hd).use [0] rfl rfl ⟨⟨_,rfl,rfl⟩,tU⟩ ?_;rintro _ _ ⟨rfl,q,G,hq,rfl⟩;refine ⟨[],?_⟩)|refine ag aa rfl ?_)
  all_goals (try conv=>whnf)
  all_goals exact ⟨rfl,_,_,hq,rfl⟩
end
