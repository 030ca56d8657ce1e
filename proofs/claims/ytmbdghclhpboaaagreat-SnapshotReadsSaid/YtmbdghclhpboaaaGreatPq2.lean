/- Part of the proof: EvA. Conditions: as each states. -/
import Derived.Test.YtmbdghclhpboaaaGreatPq1
import Derived.LoopN
import Derived.Scope
set_option linter.all false
namespace Go.Proofs.YtmbdghclhpboaaaGreat.Ev
inductive pe where
 | k (n:Nat)
 | grown (size:Nat)
 deriving Inhabited
inductive AV where
 | lit (v:Value)
 | ptr (o off:Nat)
 | slice (o off len:Nat) (cap:pe)
 | map (o:Nat)
 | func (fn:Fn) (first captured:List AV)
 | iface (t:TypeId) (v:AV)
 | agg (cs:List AV)
 | tuple (vs:List AV)
 deriving Inhabited
inductive T(α:Type) where
 | e
 | n (v:Option α) (l r:T α)
 deriving Inhabited
def T.get{α:Type}:T α->Nat->Option α
 | .e,_=>none
 | .n v l r,i=>match i with
   | 0=>v
   | i+1=>match Nat.beq (i % 2) 0 with
     | true=>l.get (i / 2)
     | false=>r.get (i / 2)
def T.set{α:Type}:Nat->T α->Nat->α->T α
 | 0,t,_,_=>t
 | f+1,.e,i,a=>match i with
   | 0=>.n (some a) .e .e
   | i+1=>match Nat.beq (i % 2) 0 with
     | true=>.n none (T.set f .e (i / 2) a) .e
     | false=>.n none .e (T.set f .e (i / 2) a)
 | f+1,.n v l r,i,a=>match i with
   | 0=>.n (some a) l r
   | i+1=>match Nat.beq (i % 2) 0 with
     | true=>.n v (T.set f l (i / 2) a) r
     | false=>.n v l (T.set f r (i / 2) a)
def aY:Nat:=1048576
def T.put{α:Type}(t:T α)(i:Nat)(a:α):T α:=T.set 21 t i a
inductive ai where
 | cells (l:List AV) (elem:TypeId)
 | row (xs:List Value) (elem:TypeId)
 | bE (es:List (Value×Value))
 | res (R:aC)
 | map (es:List (AV×AV×Nat)) (clock:Nat)
 | iter (m:Nat) (since:Nat) (seen:List Nat) (nH:Nat)
 | dead
 deriving Inhabited
structure AS where
 heap:T ai
 next:Nat
 deriving Inhabited
structure dd where
 info:TypeInfo
 bp:TypeDesc
 flat:Option Nat:=none
 kinds:List Nat:=[]
structure Env where
 ty:Nat->Option dd
 fn:Nat->Option Func
 lone:Nat->Bool:=fun _=>false
def ofValue:Value->AV
 | .agg cs=>.agg (cs.toList.map .lit)
 | v=>.lit v
def AV.cells:AV->List AV
 | .agg l=>l
 | .lit (.agg cs)=>cs.toList.map .lit
 | v=>[v]
def AV.one:AV->Bool
 | .agg _|.tuple _=>false
 | .lit v=>match v with|.agg _|.tuple _=>false|_=>true
 | _=>true
def aQ:AV:=.lit (.tuple #[])
abbrev aE:=T AV
def aL(t:aE):Operand->Option AV
 | .tmp i=>t.get i
 | .const v=>some (ofValue v)
 | .func f=>some (.lit (.func (.func f) #[] #[]))
 | .global _=>none
inductive rS where
 | ptr|slice (len cap:Nat)|map
def rS.val(id:Nat):rS->AV
 | .ptr=>.ptr id 0
 | .slice len cap=>.slice id 0 len (.k cap)
 | .map=>.map id
inductive Out where
 | pure (v:AV)
 | read (v:AV)
 | new (ob:ai) (k:rS)
 | act (v:AV) (σ:AS)
 | call (f:Nat) (args:List AV)
def bQ:TypeDesc->Bool
 | .struct _|.array _ _=>true
 | _=>false
def l5:AV->Option Nat
 | .lit (.int _ (.ofNat n))=>some n
 | _=>none
def eO{α:Type}:List (Option α)->Option (List α)
 | []=>some []
 | none::_=>none
 | some a::l=>match eO l with
   | some l=>some (a::l)
   | none=>none
def setFrom{α:Type}(l:List α)(off:Nat)(vs:List α):List α:=l.take off++vs++l.drop (off+vs.length)
def places(E:Env)(fs:List Field):Option (List (Nat×Nat)):=
 eO (fs.map fun f=>(E.ty f.type).map fun r=>(f.offset,r.info.size))
def oQ(place:Nat->Option (Nat×Nat)):List AV->List (Nat×AV)->Option (List AV)
 | cells,[]=>some cells
 | cells,(i,v)::rest=>match place i with
   | none=>none
   | some (off,size)=>match Nat.beq v.cells.length size&&Nat.ble (off+size) cells.length with
     | true=>oQ place (setFrom cells off v.cells) rest
     | false=>none
def rep{α:Type}:Nat->List α->List α
 | 0,_=>[]
 | n+1,l=>l++rep n l
def partOf(E:Env)(t:TypeId)(cs:List AV)(off:Nat):Option AV:=
 match E.ty t with
 | none=>none
 | some r=>match bQ r.bp with
   | true=>match Nat.ble (off+r.info.size) cs.length with
     | true=>some (.agg ((cs.drop off).take r.info.size))
     | false=>none
   | false=>cs[off]?
def loadAt(E:Env)(σ:AS)(t:TypeId)(o off:Nat):Option AV:=
 match σ.heap.get o with
 | some (.cells l _)=>partOf E t l off
 | _=>none
def Yx:AV->Option (List UInt8)
 | .lit (.string s)=>some s.data.toList
 | _=>none
def mV:Value->Value->Option Bool
 | .bool a,.bool b=>some (a==b)
 | .int k a,.int k' b=>if k=k' then some (a==b) else none
 | .string a,.string b=>some (a.data.toList==b.data.toList)
 | _,_=>none
def bz:List AV->List AV->Option Bool
 | [],[]=>some true
 | .lit a::l,.lit b::m=>match mV a b,bz l m with
   | some x,some y=>some (x&&y)
   | _,_=>none
 | _,_=>none
def fits:List Nat->List AV->Bool
 | [],[]=>true
 | k::ks,.lit v::l=>(match v with
   | .bool _=>Nat.beq k 0
   | .int _ _=>Nat.beq k 1
   | .string _=>Nat.beq k 2
   | _=>false)&&fits ks l
 | _,_=>false
def zn(E:Env)(t:TypeId)(x y:AV):Option Bool:=
 match E.ty t with
 | none=>none
 | some r=>match r.bp,x,y with
   | .bool,.lit (.bool a),.lit (.bool b)=>some (a==b)
   | .pointer _,.lit (.pointer none),.lit (.pointer none)=>some true
   | .pointer _,.ptr _ _,.lit (.pointer none)=>some false
   | .pointer _,.lit (.pointer none),.ptr _ _=>some false
   | .slice _,.lit (.slice none _ _),.lit (.slice none _ _)=>some true
   | .slice _,.slice _ _ _ _,.lit (.slice none _ _)=>some false
   | .map _ _,.lit (.map none),.lit (.map none)=>some true
   | .map _ _,.map _,.lit (.map none)=>some false
   | .func _ _ _,.lit .nilFunc,.lit .nilFunc=>some true
   | .func _ _ _,.func _ _ _,.lit .nilFunc=>some false
   | .func _ _ _,.lit (.func _ _ _),.lit .nilFunc=>some false
   | .pointer _,.lit (.pointer (some _)),.lit (.pointer none)=>some false
   | .slice _,.lit (.slice (some _) _ _),.lit (.slice none _ _)=>some false
   | .map _ _,.lit (.map (some _)),.lit (.map none)=>some false
   | .struct _,.agg a,.agg b=>match r.flat with
     | some n=>match Nat.beq a.length n&&Nat.beq b.length n&&fits r.kinds a with
       | true=>bz a b
       | false=>none
     | none=>none
   | _,_,_=>none
def uG(s:Sem Value):Option AV:=
 match s with
 | .pure v=>some (.lit v)
 | _=>none
def Bc(E:Env)(op:BinOp)(t:TypeId)(x y:AV):Option AV:=
 match x,y with
 | .lit (.int k a),.lit (.int k' b)=>uG (Go.binOp op t (.int k a) (.int k' b))
 | .lit (.string a),.lit (.string b)=>uG (Go.binOp op t (.string a) (.string b))
 | x,y=>match op with
   | .eql=>(zn E t x y).map fun b=>.lit (.bool b)
   | .neq=>(zn E t x y).map fun b=>.lit (.bool !b)
   | _=>none
def Yu(op:UnOp)(x:AV):Option AV:=
 match x with
 | .lit v=>uG (Op.unary op v)
 | _=>none
def De(len:Nat):Option Nat->Nat
 | some c=>c
 | none=>len
def yL(v:AV)(top:Nat):Option Nat:=
 match l5 v with
 | some n=>match Nat.ble n top with
   | true=>some n
   | false=>none
 | none=>none
def HZ(len:Nat)(cap:Option Nat):Option AV->Option (Option Nat)
 | none=>some cap
 | some v=>match yL v (De len cap) with
   | some m=>some (some m)
   | none=>none
def yr(len:Nat)(m:Option Nat):Option AV->Option AV->Option Nat
 | some v,_=>yL v (De len m)
 | none,none=>some len
 | none,some _=>none
def IW(h:Nat):Option AV->Option Nat
 | some v=>yL v h
 | none=>some 0
def oL(len:Nat)(cap:Option Nat)(lo hi mx:Option AV):Option (Nat×Nat×Option Nat):=
 match HZ len cap mx with
 | none=>none
 | some m=>match yr len m hi mx with
   | none=>none
   | some h=>match IW h lo with
     | none=>none
     | some l=>some (l,h,m)
def DZ(cap:pe)(size l:Nat):Option Nat->Option pe
 | some m=>some (.k (m - l))
 | none=>match cap with
   | .grown s=>match Nat.beq s size with|true=>some (.grown s)|false=>none
   | .k _=>none
def pe.known:pe->Option Nat
 | .k n=>some n
 | .grown _=>none
def rk(t:aE):Option Operand->Option (Option AV)
 | none=>some none
 | some x=>match aL t x with
   | some v=>some (some v)
   | none=>none
def AH(E:Env)(t:TypeId)(x:AV)(lo hi mx:Option AV):Option AV:=
 match E.ty t with
 | none=>none
 | some r=>match r.bp,x with
   | .array n elem,.ptr o off=>match E.ty elem,oL n (some n) lo hi mx with
     | some er,some (l,h,some m)=>some (.slice o (off+l * er.info.size) (h - l) (.k (m - l)))
     | _,_=>none
   | .slice elem,.slice o off len cap=>match E.ty elem,oL len cap.known lo hi mx with
     | some er,some (l,h,m)=>(DZ cap er.info.size l m).map fun c=>.slice o (off+l * er.info.size) (h - l) c
     | _,_=>none
   | .slice elem,.lit (.slice none len cap)=>match E.ty elem,oL len (some cap) lo hi mx,Nat.ble len cap with
     | some _,some (l,h,some m),true=>some (.lit (.slice none (h - l) (m - l)))
     | _,_,_=>none
   | .string,.lit (.string s)=>match mx,oL s.size (some s.size) lo hi none with
     | none,some (l,h,_)=>some (.lit (.string (s.extract l h)))
     | _,_=>none
   | _,_=>none
def js(d:TypeDesc)(a b:AV):Option Bool:=
 match d,a,b with
 | .int _,.lit (.int k x),.lit (.int k' y)=>if k=k' then some (x==y) else none
 | .string,.lit (.string x),.lit (.string y)=>some (x==y)
 | .bool,.lit (.bool x),.lit (.bool y)=>some (x==y)
 | .array _ _,.agg x,.agg y=>bz x y
 | _,_,_=>none
def eP(d:TypeDesc)(k:AV):List (AV×AV×Nat)->Nat->Option (Option (Nat×AV))
 | [],_=>some none
 | (k',v,_)::es,i=>match js d k k' with
   | some true=>some (some (i,v))
   | some false=>eP d k es (i+1)
   | none=>none
def lX(E:Env)(t:TypeId)(k:AV):Option TypeDesc:=
 match E.ty t with
 | some r=>match r.bp,k with
   | .int n,.lit (.int _ _)=>some (.int n)
   | .string,.lit (.string _)=>some .string
   | .bool,.lit (.bool _)=>some .bool
   | .array n e,.agg l=>match r.flat with
     | some m=>match Nat.beq l.length m&&fits r.kinds l with
       | true=>some (.array n e)
       | false=>none
     | none=>none
   | _,_=>none
 | none=>none
mutual
def AV.flat:AV->Option Value
 | .lit v=>some v
 | .agg l=>match AV.kF l with
   | some xs=>some (.agg xs.toArray)
   | none=>none
 | .tuple l=>match AV.kF l with
   | some xs=>some (.tuple xs.toArray)
   | none=>none
 | .iface t v=>match AV.flat v with
   | some x=>some (.iface t x)
   | none=>none
 | _=>none
def AV.kF:List AV->Option (List Value)
 | []=>some []
 | v::l=>match AV.flat v,AV.kF l with
   | some x,some xs=>some (x::xs)
   | _,_=>none
end
def uN(es:List (Value×Value)):List (AV×AV×Nat):=es.map fun e=>(ofValue e.1,ofValue e.2,0)
def GA:TypeDesc->Bool
 | .int _|.string|.bool=>true
 | _=>false
def tS:Value->Bool
 | .int _ _|.string _|.bool _=>true
 | _=>false
def yH(σ:AS):AV->Option (List (AV×AV×Nat))
 | .lit (.map none)=>some []
 | .map o=>match σ.heap.get o with
   | some (.map es _)=>some es
   | some (.bE es)=>some (uN es)
   | _=>none
 | _=>none
def xj(E:Env)(σ:AS)(t:TypeId)(x k:AV)(HG:Bool):Option AV:=
 match E.ty t with
 | none=>none
 | some r=>match r.bp with
   | .map kt et=>match lX E kt k,yH σ x,E.ty et with
     | some d,some es,some er=>match eP d k es 0 with
       | some (some (_,v))=>some (match HG with|true=>.tuple [v,.lit (.bool true)]|false=>v)
       | some none=>match er.info.zero with
         | some z=>some (match HG with|true=>.tuple [ofValue z,.lit (.bool false)]|false=>ofValue z)
         | none=>none
       | none=>none
     | _,_,_=>none
   | _=>none
def setAt{α:Type}:List α->Nat->α->List α
 | [],_,_=>[]
 | _::l,0,a=>a::l
 | x::l,i+1,a=>x::setAt l i a
def Fq(es:List (AV×AV×Nat))(i:Nat):Nat:=
 match es[i]? with
 | some e=>e.2.2
 | none=>0
def qJ(E:Env)(σ:AS)(t:TypeId)(x k v:AV):Option AS:=
 match E.ty t with
 | none=>none
 | some r=>match r.bp,x with
   | .map kt _,.map o=>match lX E kt k,σ.heap.get o with
     | some d,some (.map es clock)=>match eP d k es 0 with
       | some (some (i,_))=>some { σ with heap:=σ.heap.put o (.map (setAt es i (k,v,Fq es i)) clock) }
       | some none=>some { σ with heap:=σ.heap.put o (.map (es++[(k,v,clock)]) (clock+1)) }
       | none=>none
     | some d,some (.bE es)=>match k.flat,v.flat with
       | some kv,some vv=>match eP d k (uN es) 0 with
         | some (some (i,_))=>some { σ with heap:=σ.heap.put o (.bE (es.set i (kv,vv))) }
         | some none=>some { σ with heap:=σ.heap.put o (.bE (es++[(kv,vv)])) }
         | none=>none
       | _,_=>none
     | _,_=>none
   | _,_=>none
def wL(E:Env)(σ:AS)(t:TypeId)(x k:AV):Option AS:=
 match E.ty t with
 | none=>none
 | some r=>match r.bp,x with
   | .map kt _,.map o=>match lX E kt k,σ.heap.get o with
     | some d,some (.map es clock)=>match eP d k es 0 with
       | some (some (i,_))=>some { σ with heap:=σ.heap.put o (.map (es.eraseIdx i) clock) }
       | some none=>some { σ with heap:=σ.heap.put o (.map es clock) }
       | none=>none
     | some d,some (.bE es)=>match GA d,eP d k (uN es) 0 with
       | true,some (some (i,_))=>some { σ with heap:=σ.heap.put o (.bE (es.eraseIdx i)) }
       | true,some none=>some { σ with heap:=σ.heap.put o (.bE es) }
       | _,_=>none
     | _,_=>none
   | _,_=>none
def xT(E:Env)(σ:AS)(t:TypeId)(a v:AV):Option AS:=
 match a,E.ty t with
 | .ptr o off,some r=>match σ.heap.get o with
   | some (.cells l elem)=>
     match Nat.beq v.cells.length r.info.size&&v.cells.all AV.one&&Nat.ble (off+r.info.size) l.length with
     | true=>some { σ with heap:=σ.heap.put o (.cells (setFrom l off v.cells) elem) }
     | false=>none
   | _=>none
 | _,_=>none
def QE(E:Env)(σ:AS)(t:TypeId)(x:AV):Option AV:=
 match E.ty t with
 | none=>none
 | some r=>match r.bp,x with
   | .string,.lit (.string s)=>some (.lit (goInt s.size))
   | .array n _,_=>some (.lit (goInt n))
   | .slice _,.slice _ _ n _=>some (.lit (goInt n))
   | .slice _,.lit (.slice _ n _)=>some (.lit (goInt n))
   | .map _ _,x=>match yH σ x with
     | some es=>some (.lit (goInt es.length))
     | none=>none
   | _,_=>none
def jy(σ:AS)(size n:Nat):AV->Option (List AV)
 | .slice o off len _=>match n with
   | 0=>some []
   | n+1=>match σ.heap.get o with
     | some (.cells l _)=>match Nat.ble (off+(n+1) * size) l.length&&Nat.ble (n+1) len with
       | true=>some ((l.drop off).take ((n+1) * size))
       | false=>none
     | _=>none
 | .lit (.slice none _ _)=>some []
 | .lit (.string s)=>some (((s.data.toList).take n).map fun b=>.lit (.int .u8 b.toNat))
 | _=>none
def iZ:AV->Option Nat
 | .slice _ _ n _=>some n
 | .lit (.slice none n _)=>some n
 | .lit (.string s)=>some s.size
 | _=>none
def BD(_:TypeId):Bool:=false
def Ca(t:TypeId):Option ai->Bool
 | some (.cells _ e)=>Nat.beq e t
 | _=>false
def nw(E:Env)(σ:AS)(t:TypeId)(s x:AV):Option (AV×AS):=
 match E.ty t with
 | none=>none
 | some r=>match r.bp with
   | .slice elem=>match E.ty elem,iZ x,iZ s with
     | some er,some (n+1),some len=>
       let size:=er.info.size
       match jy σ size (n+1) x,jy σ size len s,er.info.zero with
       | some new,some gE,some z=>
         match (Nat.ble ((len+(n+1)) * er.info.bytes) 140737488355328&&Nat.ble (len+(n+1)) 4611686018427387904)&&Nat.ble er.info.bytes 65536&&Nat.blt σ.next aY&&Nat.beq (ofValue z).cells.length size&&Nat.beq gE.length (len * size)&&Nat.beq new.length ((n+1) * size)&&new.all AV.one&&!BD elem with
         | false=>none
         | true=>
           let v:AV:=.slice σ.next 0 (len+(n+1)) (.grown size)
           let ob:ai:=.cells (gE++new) elem
           match s with
           | .lit (.slice none _ 0)=>some (v,{ heap:=σ.heap.put σ.next ob,next:=σ.next+1 })
           | .slice o off _ cap=>match cap with
             | .grown s=>match Nat.beq s size&&Ca elem (σ.heap.get o) with
               | true=>some (v,{ heap:=(σ.heap.put o .dead).put σ.next ob,next:=σ.next+1 })
               | false=>none
             | .k c=>match Nat.ble (len+(n+1)) c with
               | false=>some (v,{ heap:=σ.heap.put σ.next ob,next:=σ.next+1 })
               | true=>match σ.heap.get o with
                 | some (.cells l e)=>match Nat.ble (off+len * size+new.length) l.length with
                   | true=>some (.slice o off (len+(n+1)) (.k c),{ σ with heap:=σ.heap.put o (.cells (setFrom l (off+len * size) new) e) })
                   | false=>none
                 | _=>none
           | _=>none
       | _,_,_=>none
     | some _,some 0,some _=>match s with
       | .slice ..=>some (s,σ)
       | .lit (.slice none l c)=>match Nat.ble l c with
         | true=>some (s,σ)
         | false=>none
       | _=>none
     | _,_,_=>none
   | _=>none
def Km(E:Env)(σ:AS)(t:TypeId)(d x:AV):Option (AV×AS):=
 match E.ty t with
 | none=>none
 | some r=>match r.bp with
   | .slice elem=>match E.ty elem,iZ x,d with
     | some er,some n,.slice o off len _=>
       match Nat.min n len with
       | 0=>some (.lit (goInt 0),σ)
       | k+1=>match jy σ er.info.size (k+1) x,σ.heap.get o with
         | some new,some (.cells l e)=>match Nat.ble (off+new.length) l.length&&new.all AV.one with
           | true=>some (.lit (goInt (k+1:Nat)),{ σ with heap:=σ.heap.put o (.cells (setFrom l off new) e) })
           | false=>none
         | _,_=>none
     | _,_,_=>none
   | _=>none
def o2:List AV->ByteArray->Option ByteArray
 | [],s=>some s
 | .lit (.int .u8 n)::l,s=>o2 l (s.push (UInt8.ofNat n.toNat))
 | _,_=>none
def nL(E:Env)(σ:AS)(src dst:TypeId)(x:AV):Option Out:=
 match E.ty src,E.ty dst with
 | some sr,some dr=>match dr.bp,x with
   | .int k,.lit (.int _ n)=>some (.pure (.lit (.int k (k.wrap n))))
   | .string,.lit (.string s)=>some (.pure (.lit (.string s)))
   | .string,x=>match sr.bp with
     | .slice e=>match E.ty e with
       | some er=>match er.bp with
         | .int .u8=>match x with
           | .lit (.slice none _ _)=>some (.read (.lit (.string .empty)))
           | .slice _ _ len _=>match jy σ 1 len x with
             | some l=>(o2 l .empty).map fun s=>.read (.lit (.string s))
             | none=>none
           | _=>none
         | _=>none
       | none=>none
     | _=>none
   | _,_=>none
 | _,_=>none
def nD(f:Value->Value->Sem Value):AV->List AV->Option AV
 | v,[]=>some v
 | .lit (.int k a),.lit (.int k' b)::rest=>match uG (f (.int k a) (.int k' b)) with
   | some v=>nD f v rest
   | none=>none
 | _,_=>none
def AA(f:Value->Value->Sem Value):List AV->Option AV
 | []=>none
 | v::l=>nD f v l
def KV(σ:AS)(it:AV):Option (AV×AS):=
 match it with
 | .ptr r 0=>match σ.heap.get r with
   | some (.iter m since seen last)=>match σ.heap.get m with
     | some (.map es clock)=>
       match !seen.isEmpty&&!es.isEmpty&&es.all (fun e=>Nat.ble last e.2.2) with
       | true=>none
       | false=>
         let left:=es.filter fun e=>!seen.contains e.2.2
         let gE:=left.filter fun e=>Nat.blt e.2.2 since
         let new:=left.filter fun e=>Nat.ble since e.2.2
         match gE,new with
         | [],[]=>some (.tuple [.lit (.bool false)],σ)
         | [(k,v,born)],[]=>some (.tuple [.lit (.bool true),k,v],{ σ with heap:=σ.heap.put r (.iter m since (seen++[born]) clock) })
         | _,_=>none
     | _=>none
   | _=>none
 | _=>none
def FD(σ:AS)(it:AV):Option AV:=
 match it with
 | .ptr r 0=>match σ.heap.get r with
   | some (.iter m _ seen nH)=>match seen.getLast?,σ.heap.get m with
     | some tY,some (.map es clock)=>match Nat.beq clock nH,es.find? (fun e=>Nat.beq e.2.2 tY) with
       | true,some (k,v,_)=>some (.tuple [k,v])
       | _,_=>none
     | _,_=>none
   | _=>none
 | _=>none
def kD(t:aE)(l:List Operand):Option (List AV):=eO (l.map (aL t))
def pC(f:AV)(args:List AV):Option Out:=
 match f with
 | .lit (.func (.func f) first cap)=>some (.call f (first.toList.map .lit++args++cap.toList.map .lit))
 | .func (.func f) first cap=>some (.call f (first++args++cap))
 | _=>none
def gP(E:Env)(σ:AS)(b:Builtin)(ts:List TypeId)(args:List AV):Option Out:=
 match b,ts,args with
 | .len,t::_,x::_=>(QE E σ t x).map .read
 | .append,t::_,[s,x]=>match ts with
   | [_,xt]=>match E.ty xt with
     | some xr=>match xr.bp with
       | .int _=>none
       | _=>(nw E σ t s x).map fun r=>.act r.1 r.2
     | none=>none
   | _=>none
 | .copy,t::_,[d,x]=>(Km E σ t d x).map fun r=>.act r.1 r.2
 | .delete,t::_,[m,k]=>(wL E σ t m k).map fun σ=>.act aQ σ
 | .min,_,l=>(AA Builtin.min2 l).map .pure
 | .max,_,l=>(AA Builtin.max2 l).map .pure
 | _,_,_=>none
def bK(E:Env)(t:aE)(σ:AS):Op->Option Out
 | .move x=>(aL t x).map .pure
 | .assign x=>(aL t x).map fun v=>.act v σ
 | .pick c a b=>match aL t c with
   | some (.lit (.bool true))=>(aL t a).map .pure
   | some (.lit (.bool false))=>(aL t b).map .pure
   | _=>none
 | .alloc elem=>match E.ty elem with
   | some r=>r.info.zero.map fun z=>.new (.cells (ofValue z).cells elem) .ptr
   | none=>none
 | .box elem x=>(aL t x).map fun v=>.new (.cells v.cells elem) .ptr
 | .build ty parts=>match E.ty ty,kD t (parts.toList.map (·.2)) with
   | some r,some vs=>match r.info.zero with
     | some z=>match r.bp with
       | .struct fs=>match places E fs.toList with
         | some ps=>(oQ (ps[·]?) (ofValue z).cells ((parts.toList.map (·.1)).zip vs)).map fun l=>.pure (.agg l)
         | none=>none
       | .array _ elem=>match E.ty elem with
         | some er=>(oQ (fun i=>some (i * er.info.size,er.info.size)) (ofValue z).cells ((parts.toList.map (·.1)).zip vs)).map fun l=>.pure (.agg l)
         | none=>none
       | _=>none
     | none=>none
   | _,_=>none
 | .buildSlice ty len parts=>match E.ty ty,kD t (parts.toList.map (·.2)) with
   | some r,some vs=>match r.bp with
     | .slice elem=>match E.ty elem with
       | some er=>match er.info.zero with
         | some z=>match Nat.ble (len * er.info.size) 65536&&Nat.beq (ofValue z).cells.length er.info.size with
           | true=>(oQ (fun i=>some (i * er.info.size,er.info.size)) (rep len (ofValue z).cells) ((parts.toList.map (·.1)).zip vs)).map fun l=>.new (.cells l elem) (.slice len len)
           | false=>none
         | none=>none
       | none=>none
     | _=>none
   | _,_=>none
 | .load ty a=>match aL t a with
   | some (.ptr o off)=>(loadAt E σ ty o off).map .read
   | _=>none
 | .store ty a v=>match aL t a,aL t v with
   | some a,some v=>(xT E σ ty a v).map fun σ=>.act aQ σ
   | _,_=>none
 | .nilCheck x=>match aL t x with
   | some (.ptr o off)=>some (.pure (.ptr o off))
   | some (.lit (.func (.func f) a b))=>some (.pure (.lit (.func (.func f) a b)))
   | some (.func (.func f) a b)=>some (.pure (.func (.func f) a b))
   | some (.iface ty v)=>some (.pure (.iface ty v))
   | _=>none
 | .binOp op ty x y _=>match aL t x,aL t y with
   | some x,some y=>(Bc E op ty x y).map .pure
   | _,_=>none
 | .unOp op _ x=>match aL t x with
   | some x=>(Yu op x).map .pure
   | none=>none
 | .convert src dst x=>match aL t x with
   | some x=>nL E σ src dst x
   | none=>none
 | .makeInterface ty x=>match E.ty ty,aL t x with
   | some r,some v=>match r.bp with
     | .interface _=>none
     | _=>some (.pure (.iface ty v))
   | _,_=>none
 | .makeFunc fn first cap=>match kD t first.toList,kD t cap.toList with
   | some a,some b=>some (.pure (.func fn a b))
   | _,_=>none
 | .makeMap _ r=>match r with
   | none=>some (.new (.map [] 0) .map)
   | some _=>none
 | .makeSlice ty l c=>match E.ty ty,aL t l,aL t c with
   | some r,some l,some c=>match r.bp,l5 l,l5 c with
     | .slice elem,some l,some c=>match E.ty elem with
       | some er=>match er.info.zero with
         | some z=>match Nat.ble l c&&Nat.ble c 65536&&Nat.ble er.info.bytes 65536&&Nat.beq (ofValue z).cells.length er.info.size with
           | true=>some (.new (.cells (rep c (ofValue z).cells) elem) (.slice l c))
           | false=>none
         | none=>none
       | none=>none
     | _,_,_=>none
   | _,_,_=>none
 | .slice ty x lo hi mx=>match aL t x,rk t lo,rk t hi,rk t mx with
   | some x,some lo,some hi,some mx=>(AH E ty x lo hi mx).map .pure
   | _,_,_,_=>none
 | .fieldAddr ty x f=>match E.ty ty,aL t x with
   | some r,some (.ptr o off)=>match r.bp with
     | .struct fs=>match fs[f]? with
       | some fd=>match E.ty fd.type with
         | some fr=>match Nat.beq fr.info.size 0 with
           | false=>some (.pure (.ptr o (off+fd.offset)))
           | true=>none
         | none=>none
       | none=>none
     | _=>none
   | _,_=>none
 | .field ty x f=>match E.ty ty,aL t x with
   | some r,some (.agg cs)=>match r.bp with
     | .struct fs=>match fs[f]? with
       | some fd=>(partOf E fd.type cs fd.offset).map .pure
       | none=>none
     | _=>none
   | _,_=>none
 | .indexAddr ty x i=>match E.ty ty,aL t x,aL t i with
   | some r,some x,some i=>match r.bp,x,l5 i with
     | .array len elem,.ptr o off,some i=>match E.ty elem,Nat.blt i len with
       | some er,true=>some (.pure (.ptr o (off+i * er.info.size)))
       | _,_=>none
     | .slice elem,.slice o off len _,some i=>match E.ty elem,Nat.blt i len with
       | some er,true=>some (.pure (.ptr o (off+i * er.info.size)))
       | _,_=>none
     | _,_,_=>none
   | _,_,_=>none
 | .index ty x i=>match E.ty ty,aL t x,aL t i with
   | some r,some x,some i=>match r.bp,x,l5 i with
     | .array len elem,.agg cs,some i=>match E.ty elem,Nat.blt i len with
       | some er,true=>(partOf E elem cs (i * er.info.size)).map .pure
       | _,_=>none
     | .string,.lit (.string s),some i=>match s.data.toList[i]? with
       | some b=>some (.pure (.lit (.int .u8 b.toNat)))
       | none=>none
     | _,_,_=>none
   | _,_,_=>none
 | .lookup ty x k ok=>match aL t x,aL t k with
   | some x,some k=>(xj E σ ty x k ok).map .read
   | _,_=>none
 | .mapUpdate ty m k v=>match aL t m,aL t k,aL t v with
   | some m,some k,some v=>(qJ E σ ty m k v).map fun σ=>.act aQ σ
   | _,_,_=>none
 | .insert ty m k v=>match aL t m,aL t k,aL t v with
   | some m,some k,some v=>(qJ E σ ty m k v).map fun σ=>.act aQ σ
   | _,_,_=>none
 | .range ty x=>match E.ty ty,aL t x with
   | some r,some (.map o)=>match r.bp,σ.heap.get o with
     | .map _ _,some (.map _ clock)=>match Nat.blt σ.next aY with
       | true=>some (.act (.ptr σ.next 0) { heap:=σ.heap.put σ.next (.iter o clock [] clock),next:=σ.next+1 })
       | false=>none
     | _,_=>none
   | _,_=>none
 | .next it isString=>match isString,aL t it with
   | false,some it=>(KV σ it).map fun r=>.act r.1 r.2
   | _,_=>none
 | .entry it=>match aL t it with
   | some it=>(FD σ it).map .read
   | none=>none
 | .typeAssert x _ asserted ok=>match E.ty asserted,aL t x with
   | some r,some (.iface ty v)=>match r.bp,Nat.beq ty asserted with
     | .interface _,_=>none
     | _,true=>some (.pure (match ok with|true=>.tuple [v,.lit (.bool true)]|false=>v))
     | _,false=>none
   | _,_=>none
 | .extract x i=>match aL t x with
   | some (.tuple vs)=>(vs[i]?).map .pure
   | some (.lit (.tuple vs))=>(vs[i]?).map fun v=>.pure (.lit v)
   | _=>none
 | .call c=>match kD t c.args.toList with
   | none=>none
   | some args=>match c.callee with
     | .value f=>match aL t f with
       | some f=>pC f args
       | none=>none
     | .builtin b=>gP E σ b c.argTypes.toList args
     | .invoke x name=>match aL t x with
       | some (.iface ty v)=>match E.ty ty with
         | some r=>match r.info.methods.find? (·.name==name),r.bp with
           | some m,.pointer _=>match m.path.isEmpty,m.func with
             | true,some (f,true)=>some (.call f (v::args))
             | _,_=>none
           | _,_=>none
         | none=>none
       | _=>none
 | _=>none
def early:Op->Bool
 | .assign _|.store ..|.mapUpdate ..|.insert ..|.range ..|.next ..=>false
 | .call c=>match c.callee with
   | .builtin .len|.builtin .min|.builtin .max=>true
   | _=>false
 | _=>true
def dD(ops:List Oper)(t:aE)(o:Oper):Option Bool:=
 match o.guard with
 | none=>some true
 | some (j,want)=>match ops[j]? with
   | some p=>match p.dst with
     | some d=>match t.get d with
       | some (.lit (.bool b))=>some (b==want)
       | some (.lit (.tuple _))=>some false
       | _=>none
     | none=>none
   | none=>none
def o3(n:Nat)(t:aE)(d:Option Nat)(v:AV):Option aE:=
 match d with
 | none=>some t
 | some d=>match Nat.blt d n with
   | true=>some (t.put d v)
   | false=>none
abbrev Cb:=Nat->List AV->AS->Option (AV×AS)
def mf(E:Env)(cb:Cb)(ops:List Oper)(o:Oper)(t:aE)(σ:AS):Option (AV×AS×Nat):=
 match dD ops t o with
 | none=>none
 | some false=>some (aQ,σ,0)
 | some true=>match bK E t σ o.op with
   | none=>none
   | some (.pure v)=>some (v,σ,0)
   | some (.read v)=>some (v,σ,1)
   | some (.new ob k)=>match Nat.blt σ.next aY with
     | true=>some (k.val σ.next,{ heap:=σ.heap.put σ.next ob,next:=σ.next+1 },2)
     | false=>none
   | some (.act v σ)=>some (v,σ,2)
   | some (.call f args)=>match E.lone f&&(AV.kF args).isSome with
     | true=>match cb f args ⟨.e,0⟩ with
       | some (v,_)=>match v.flat with
         | some _=>some (v,σ,3)
         | none=>none
       | none=>none
     | false=>match cb f args σ with
       | some (v,σ)=>some (v,σ,2)
       | none=>none
def JA(E:Env)(cb:Cb)(n:Nat)(ops:List Oper):List Oper->aE->AS->Option (aE×AS)
 | [],t,σ=>some (t,σ)
 | o::rest,t,σ=>match mf E cb ops o t σ with
   | some (v,σ,_)=>match o3 n t o.dst v with
     | some t=>JA E cb n ops rest t σ
     | none=>none
   | none=>none
def kh:List Edge->Nat
 | []=>0
 | e::l=>match Region.binds .any e with
   | true=>Nat.lor (Nat.shiftLeft 1 e.on) (kh l)
   | false=>kh l
structure Row where
 i:Nat
 o:Oper
 pm:Nat
 early:Bool
 looks:List Nat
def eE(ops:Array Oper):Nat->List Oper->List Row
 | _,[]=>[]
 | i,o::l=>⟨i,o,kh o.after.toList,early o.op,o.looksAt ops⟩::eE ops (i+1) l
def has(m i:Nat):Bool:=Nat.testBit m i
def ready(done:Nat)(r:Row):Bool:=Nat.beq (Nat.land r.pm done) r.pm
def nZ:List Nat->Nat->Bool
 | [],_=>false
 | x::l,n=>match Nat.beq x n with|true=>true|false=>nZ l n
def xx(a b:Row):Bool:=
 match a.o.dst with
 | none=>true
 | some d=>
   (match nZ b.looks d with
    | false=>true
    | true=>has b.pm a.i || (has a.pm b.i&&!a.early)) &&
   (match b.o.dst with
    | none=>true
    | some d'=>match Nat.beq d d' with
      | false=>true
      | true=>(has b.pm a.i || has a.pm b.i)&&!a.early&&!b.early)
def GB(r:Row):Bool:=
 match r.early,r.o.dst with
 | true,some d=>!nZ r.looks d
 | _,_=>true
def indep:List Row->Bool
 | []=>true
 | r::l=>Nat.blt r.pm (Nat.shiftLeft 1 r.i)&&GB r&&l.all (fun q=>xx r q&&xx q r)&&indep l
def LM:Value->Value->Bool
 | .bool a,.bool b=>a==b
 | .int k a,.int k' b=>(if k=k' then true else false)&&a==b
 | .string a,.string b=>a.data.toList==b.data.toList
 | .pointer none,.pointer none=>true
 | .map none,.map none=>true
 | .slice none a b,.slice none c d=>Nat.beq a c&&Nat.beq b d
 | .nilFunc,.nilFunc=>true
 | .nilIface,.nilIface=>true
 | _,_=>false
mutual
def AV.same:AV->AV->Bool
 | .lit a,.lit b=>LM a b
 | .ptr a b,.ptr c d=>Nat.beq a c&&Nat.beq b d
 | .slice a b c d,.slice a' b' c' d'=>Nat.beq a a'&&Nat.beq b b'&&Nat.beq c c'&&(match d,d' with|.grown x,.grown y=>Nat.beq x y|.k x,.k y=>Nat.beq x y|_,_=>false)
 | .map a,.map b=>Nat.beq a b
 | .iface a b,.iface c d=>Nat.beq a c&&AV.same b d
 | .agg a,.agg b=>AV.vU a b
 | .tuple a,.tuple b=>AV.vU a b
 | _,_=>false
def AV.vU:List AV->List AV->Bool
 | [],[]=>true
 | a::l,b::m=>AV.same a b&&AV.vU l m
 | _,_=>false
end
def again(E:Env)(pm:Nat)(t:aE)(σ:AS):List Row->Bool
 | []=>true
 | r :: l=>(has pm r.i || (match bK E t σ r.o.op,r.o.dst with
     | some (.read v),some d=>match t.get d with
       | some u=>AV.same u v
       | none=>false
     | some (.read _),none=>true
     | _,_=>false))&&again E pm t σ l
def gF(p:Row->Bool):List Row->Option (Row×List Row)
 | []=>none
 | r::l=>match p r with
   | true=>some (r,l)
   | false=>match gF p l with
     | some (q,m)=>some (q,r::m)
     | none=>none
def nM(E:Env)(cb:Cb)(n:Nat)(ops:List Oper):Nat->Nat->List Row->List Row->aE->AS->Option (aE×AS)
 | 0,_,_,_,_,_=>none
 | fuel+1,done,rem,rd,t,σ=>
   match rem with
   | []=>some (t,σ)
   | _::_=>match gF (fun r=>r.early&&ready done r) rem with
     | some (r,rem)=>match mf E cb ops r.o t σ with
       | some (v,σ,tag)=>match o3 n t r.o.dst v with
         | some t=>match tag with
           | 0=>nM E cb n ops fuel (Nat.lor done (Nat.shiftLeft 1 r.i)) rem rd t σ
           | 1=>nM E cb n ops fuel (Nat.lor done (Nat.shiftLeft 1 r.i)) rem (r::rd) t σ
           | _=>match again E 0 t σ rd with
             | true=>nM E cb n ops fuel (Nat.lor done (Nat.shiftLeft 1 r.i)) rem rd t σ
             | false=>none
         | none=>none
       | none=>none
     | none=>match gF (ready done) rem with
       | none=>none
       | some (r,rem)=>match rem.all (fun q=>!ready done q) with
         | false=>none
         | true=>match mf E cb ops r.o t σ with
           | some (v,σ,tag)=>match o3 n t r.o.dst v with
             | some t=>match Nat.beq tag 3 || again E r.pm t σ rd with
               | true=>nM E cb n ops fuel (Nat.lor done (Nat.shiftLeft 1 r.i)) rem rd t σ
               | false=>none
             | none=>none
           | none=>none
def CG(E:Env)(cb:Cb)(n:Nat)(ops:Array Oper)(draw:Bool)(t:aE)(σ:AS):Option (aE×AS):=
 match draw with
 | false=>JA E cb n ops.toList ops.toList t σ
 | true=>
   let rows:=eE ops 0 ops.toList
   match indep rows with
   | false=>none
   | true=>nM E cb n ops.toList (ops.toList.length+1) 0 rows [] t σ
inductive fR where
 | normal|exit (id:Nat)|goto (l:Nat)|ret
def dV(E:Env)(cb:Cb)(nt:Nat):Nat->Code->aE->AS->Option (fR×aE×AS)
 | 0,_,_,_=>none
 | f+1,c,t,σ=>match c with
   | .skip|.label _=>some (.normal,t,σ)
   | .ret=>some (.ret,t,σ)
   | .exit id=>some (.exit id,t,σ)
   | .goto l=>some (.goto l,t,σ)
   | .region _ ops draw=>(CG E cb nt ops draw t σ).map fun r=>(.normal,r.1,r.2)
   | .seq a b=>match dV E cb nt f a t σ with
     | some (.normal,t,σ)=>dV E cb nt f b t σ
     | r=>r
   | .cond c a b=>match aL t c with
     | some (.lit (.bool true))=>dV E cb nt f a t σ
     | some (.lit (.bool false))=>dV E cb nt f b t σ
     | _=>none
   | .block id b=>match dV E cb nt f b t σ with
     | some (.exit yB,t,σ)=>match Nat.beq yB id with
       | true=>some (.normal,t,σ)
       | false=>some (.exit yB,t,σ)
     | r=>r
   | .loop b=>match dV E cb nt f b t σ with
     | some (.normal,t,σ)=>dV E cb nt f (.loop b) t σ
     | r=>r
   | .scope b=>match dV E cb nt f b t σ with
     | some (.goto _,_,_)=>none
     | r=>r
   | _=>none
def setArgs:Nat->List AV->aE->aE
 | _,[],t=>t
 | i,v::l,t=>setArgs (i+1) l (t.put i v)
def kY(E:Env)(t:aE)(σ:AS):ResultVar->Option AV
 | .tmp i=>t.get i
 | .cell a ty=>match t.get a with
   | some (.ptr o off)=>loadAt E σ ty o off
   | _=>none
def oF(E:Env)(t:aE)(σ:AS)(rs:List ResultVar):Option AV:=
 match eO (rs.map (kY E t σ)) with
 | some [v]=>some v
 | some []=>some aQ
 | some l=>some (.tuple l)
 | none=>none
def QN:Cb:=fun _ _ _=>none
def acC(a b:Cb):Cb:=fun f args σ=>match a f args σ with
 | some r=>some r
 | none=>b f args σ
def wQ(E:Env)(hv:Cb):Nat->Cb
 | 0,_,_,_=>none
 | d+1,f,args,σ=>match hv f args σ with
   | some r=>some r
   | none=>match E.fn f with
     | none=>none
     | some fn=>match fn.body with
       | none=>none
       | some c=>match Nat.ble args.length fn.ntmps&&Nat.ble fn.ntmps 65536 with
         | false=>none
         | true=>match dV E (wQ E hv d) fn.ntmps 100000 c (setArgs 0 args .e) σ with
           | some (.normal,t,σ)=>(oF E t σ fn.results.toList).map fun v=>(v,σ)
           | some (.ret,t,σ)=>(oF E t σ fn.results.toList).map fun v=>(v,σ)
           | _=>none
