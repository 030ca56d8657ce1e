/-
  An evaluator of the language's code over a heap of its own (objects by numbers): values, objects, operations, regions, code, calls. The evaluator's relation to the model's worlds: objects have places, values are as told, what comes behind keeps what was. The evaluator's relation to the model's worlds, and what each operation does: values, reads. What the evaluator's operations give: values and rea
-/
import Derived.Calls
import Derived.Orders
import Derived.LoopN
import Derived.Scope
import Derived.Laws.Sem
import Derived.Laws.Rows
import Derived.Laws.CopyRow
import Derived.Laws.Entries
import Derived.Laws.BytesString
import Derived.Below
set_option linter.unusedSimpArgs false
set_option linter.unusedVariables false
set_option maxRecDepth 100000
set_option maxHeartbeats 8000000
namespace Go.Proofs.YtldjgpnbkbmgoaaGreatDoor.Ev
inductive Cap where
  | k (n : Nat)
  | grown (size : Nat)
  deriving Inhabited
inductive AV where
  | lit (v : Value)
  | ptr (o off : Nat)
  | slice (o off len : Nat) (cap : Cap)
  | map (o : Nat)
  | func (fn : Fn) (first captured : List AV)
  | iface (t : TypeId) (v : AV)
  | agg (cs : List AV)
  | tuple (vs : List AV)
  deriving Inhabited
inductive T (α : Type) where
  | e
  | n (v : Option α) (l r : T α)
  deriving Inhabited
def T.get {α : Type} : T α → Nat → Option α
  | .e, _ => none
  | .n v l r, i => match i with
    | 0 => v
    | i + 1 => match Nat.beq (i % 2) 0 with
      | true => l.get (i / 2)
      | false => r.get (i / 2)
def T.set {α : Type} : Nat → T α → Nat → α → T α
  | 0, t, _, _ => t
  | f + 1, .e, i, a => match i with
    | 0 => .n (some a) .e .e
    | i + 1 => match Nat.beq (i % 2) 0 with
      | true => .n none (T.set f .e (i / 2) a) .e
      | false => .n none .e (T.set f .e (i / 2) a)
  | f + 1, .n v l r, i, a => match i with
    | 0 => .n (some a) l r
    | i + 1 => match Nat.beq (i % 2) 0 with
      | true => .n v (T.set f l (i / 2) a) r
      | false => .n v l (T.set f r (i / 2) a)
def lim : Nat := 1048576
def T.put {α : Type} (t : T α) (i : Nat) (a : α) : T α := T.set 21 t i a
inductive AObj where
  | cells (l : List AV) (elem : TypeId)
  | map (es : List (AV × AV × Nat)) (clock : Nat)
  | iter (m : Nat) (since : Nat) (seen : List Nat) (stepped : Nat)
  | dead
  deriving Inhabited
structure AS where
  heap : T AObj
  next : Nat
  deriving Inhabited
structure TyRow where
  info : TypeInfo
  und : TypeDesc
  flat : Option Nat := none
  kinds : List Nat := []
structure Env where
  ty : Nat → Option TyRow
  fn : Nat → Option Func
  lone : Nat → Bool := fun _ => false
def ofValue : Value → AV
  | .agg cs => .agg (cs.toList.map .lit)
  | v => .lit v
def AV.cells : AV → List AV
  | .agg l => l
  | .lit (.agg cs) => cs.toList.map .lit
  | v => [v]
def AV.one : AV → Bool
  | .agg _ | .tuple _ => false
  | .lit v => match v with | .agg _ | .tuple _ => false | _ => true
  | _ => true
def undefV : AV := .lit (.tuple #[])
abbrev Tmps := T AV
def opnd (t : Tmps) : Operand → Option AV
  | .tmp i => t.get i
  | .const v => some (ofValue v)
  | .func f => some (.lit (.func (.func f) #[] #[]))
  | .global _ => none
inductive NewK where
  | ptr | slice (len cap : Nat) | map
def NewK.val (id : Nat) : NewK → AV
  | .ptr => .ptr id 0
  | .slice len cap => .slice id 0 len (.k cap)
  | .map => .map id
inductive Out where
  | pure (v : AV)
  | read (v : AV)
  | new (ob : AObj) (k : NewK)
  | act (v : AV) (σ : AS)
  | call (f : Nat) (args : List AV)
def isAggD : TypeDesc → Bool
  | .struct _ | .array _ _ => true
  | _ => false
def natOf : AV → Option Nat
  | .lit (.int _ (.ofNat n)) => some n
  | _ => none
def allSome {α : Type} : List (Option α) → Option (List α)
  | [] => some []
  | none :: _ => none
  | some a :: l => match allSome l with
    | some l => some (a :: l)
    | none => none
def setFrom {α : Type} (l : List α) (off : Nat) (vs : List α) : List α := l.take off ++ vs ++ l.drop (off + vs.length)
def places (E : Env) (fs : List Field) : Option (List (Nat × Nat)) :=
  allSome (fs.map fun f => (E.ty f.type).map fun r => (f.offset, r.info.size))
def fillA (place : Nat → Option (Nat × Nat)) : List AV → List (Nat × AV) → Option (List AV)
  | cells, [] => some cells
  | cells, (i, v) :: rest => match place i with
    | none => none
    | some (off, size) => match Nat.beq v.cells.length size && Nat.ble (off + size) cells.length with
      | true => fillA place (setFrom cells off v.cells) rest
      | false => none
def rep {α : Type} : Nat → List α → List α
  | 0, _ => []
  | n + 1, l => l ++ rep n l
def partOf (E : Env) (t : TypeId) (cs : List AV) (off : Nat) : Option AV :=
  match E.ty t with
  | none => none
  | some r => match isAggD r.und with
    | true => match Nat.ble (off + r.info.size) cs.length with
      | true => some (.agg ((cs.drop off).take r.info.size))
      | false => none
    | false => cs[off]?
def loadAt (E : Env) (σ : AS) (t : TypeId) (o off : Nat) : Option AV :=
  match σ.heap.get o with
  | some (.cells l _) => partOf E t l off
  | _ => none
def scalarEq : Value → Value → Option Bool
  | .bool a, .bool b => some (a == b)
  | .int k a, .int k' b => if k = k' then some (a == b) else none
  | .string a, .string b => some (a.data.toList == b.data.toList)
  | _, _ => none
def flatEq : List AV → List AV → Option Bool
  | [], [] => some true
  | .lit a :: l, .lit b :: m => match scalarEq a b, flatEq l m with
    | some x, some y => some (x && y)
    | _, _ => none
  | _, _ => none
def fits : List Nat → List AV → Bool
  | [], [] => true
  | k :: ks, .lit v :: l => (match v with
    | .bool _ => Nat.beq k 0
    | .int _ _ => Nat.beq k 1
    | .string _ => Nat.beq k 2
    | _ => false) && fits ks l
  | _, _ => false
def eqOf (E : Env) (t : TypeId) (x y : AV) : Option Bool :=
  match E.ty t with
  | none => none
  | some r => match r.und, x, y with
    | .bool, .lit (.bool a), .lit (.bool b) => some (a == b)
    | .pointer _, .lit (.pointer none), .lit (.pointer none) => some true
    | .pointer _, .ptr _ _, .lit (.pointer none) => some false
    | .pointer _, .lit (.pointer none), .ptr _ _ => some false
    | .slice _, .lit (.slice none _ _), .lit (.slice none _ _) => some true
    | .slice _, .slice _ _ _ _, .lit (.slice none _ _) => some false
    | .map _ _, .lit (.map none), .lit (.map none) => some true
    | .map _ _, .map _, .lit (.map none) => some false
    | .func _ _ _, .lit .nilFunc, .lit .nilFunc => some true
    | .func _ _ _, .func _ _ _, .lit .nilFunc => some false
    | .func _ _ _, .lit (.func _ _ _), .lit .nilFunc => some false
    | .struct _, .agg a, .agg b => match r.flat with
      | some n => match Nat.beq a.length n && Nat.beq b.length n && fits r.kinds a with
        | true => flatEq a b
        | false => none
      | none => none
    | _, _, _ => none
def semVal (s : Sem Value) : Option AV :=
  match s with
  | .pure v => some (.lit v)
  | _ => none
def binA (E : Env) (op : BinOp) (t : TypeId) (x y : AV) : Option AV :=
  match x, y with
  | .lit (.int k a), .lit (.int k' b) => semVal (Go.binOp op t (.int k a) (.int k' b))
  | .lit (.string a), .lit (.string b) => semVal (Go.binOp op t (.string a) (.string b))
  | x, y => match op with
    | .eql => (eqOf E t x y).map fun b => .lit (.bool b)
    | .neq => (eqOf E t x y).map fun b => .lit (.bool !b)
    | _ => none
def unA (op : UnOp) (x : AV) : Option AV :=
  match x with
  | .lit v => semVal (Op.unary op v)
  | _ => none
def topOf (len : Nat) : Option Nat → Nat
  | some c => c
  | none => len
def natLe (v : AV) (top : Nat) : Option Nat :=
  match natOf v with
  | some n => match Nat.ble n top with
    | true => some n
    | false => none
  | none => none
def endA (len : Nat) (cap : Option Nat) : Option AV → Option (Option Nat)
  | none => some cap
  | some v => match natLe v (topOf len cap) with
    | some m => some (some m)
    | none => none
def highA (len : Nat) (m : Option Nat) : Option AV → Option AV → Option Nat
  | some v, _ => natLe v (topOf len m)
  | none, none => some len
  | none, some _ => none
def lowA (h : Nat) : Option AV → Option Nat
  | some v => natLe v h
  | none => some 0
def boundsA (len : Nat) (cap : Option Nat) (lo hi mx : Option AV) : Option (Nat × Nat × Option Nat) :=
  match endA len cap mx with
  | none => none
  | some m => match highA len m hi mx with
    | none => none
    | some h => match lowA h lo with
      | none => none
      | some l => some (l, h, m)
def capAfter (cap : Cap) (size l : Nat) : Option Nat → Option Cap
  | some m => some (.k (m - l))
  | none => match cap with
    | .grown s => match Nat.beq s size with | true => some (.grown s) | false => none
    | .k _ => none
def Cap.known : Cap → Option Nat
  | .k n => some n
  | .grown _ => none
def optOp (t : Tmps) : Option Operand → Option (Option AV)
  | none => some none
  | some x => match opnd t x with
    | some v => some (some v)
    | none => none
def sliceA (E : Env) (t : TypeId) (x : AV) (lo hi mx : Option AV) : Option AV :=
  match E.ty t with
  | none => none
  | some r => match r.und, x with
    | .array n elem, .ptr o off => match E.ty elem, boundsA n (some n) lo hi mx with
      | some er, some (l, h, some m) => some (.slice o (off + l * er.info.size) (h - l) (.k (m - l)))
      | _, _ => none
    | .slice elem, .slice o off len cap => match E.ty elem, boundsA len cap.known lo hi mx with
      | some er, some (l, h, m) => (capAfter cap er.info.size l m).map fun c => .slice o (off + l * er.info.size) (h - l) c
      | _, _ => none
    | .slice elem, .lit (.slice none len cap) => match E.ty elem, boundsA len (some cap) lo hi mx, Nat.ble len cap with
      | some _, some (l, h, some m), true => some (.lit (.slice none (h - l) (m - l)))
      | _, _, _ => none
    | .string, .lit (.string s) => match mx, boundsA s.size (some s.size) lo hi none with
      | none, some (l, h, _) => some (.lit (.string (s.extract l h)))
      | _, _ => none
    | _, _ => none
def keyEq (d : TypeDesc) (a b : AV) : Option Bool :=
  match d, a, b with
  | .int _, .lit (.int k x), .lit (.int k' y) => if k = k' then some (x == y) else none
  | .string, .lit (.string x), .lit (.string y) => some (x == y)
  | .bool, .lit (.bool x), .lit (.bool y) => some (x == y)
  | .array _ _, .agg x, .agg y => flatEq x y
  | _, _, _ => none
def findA (d : TypeDesc) (k : AV) : List (AV × AV × Nat) → Nat → Option (Option (Nat × AV))
  | [], _ => some none
  | (k', v, _) :: es, i => match keyEq d k k' with
    | some true => some (some (i, v))
    | some false => findA d k es (i + 1)
    | none => none
def keyTy (E : Env) (t : TypeId) (k : AV) : Option TypeDesc :=
  match E.ty t with
  | some r => match r.und, k with
    | .int n, .lit (.int _ _) => some (.int n)
    | .string, .lit (.string _) => some .string
    | .bool, .lit (.bool _) => some .bool
    | .array n e, .agg l => match r.flat with
      | some m => match Nat.beq l.length m && fits r.kinds l with
        | true => some (.array n e)
        | false => none
      | none => none
    | _, _ => none
  | none => none
def mapEs (σ : AS) : AV → Option (List (AV × AV × Nat))
  | .lit (.map none) => some []
  | .map o => match σ.heap.get o with
    | some (.map es _) => some es
    | _ => none
  | _ => none
def lookupA (E : Env) (σ : AS) (t : TypeId) (x k : AV) (commaOk : Bool) : Option AV :=
  match E.ty t with
  | none => none
  | some r => match r.und with
    | .map kt et => match keyTy E kt k, mapEs σ x, E.ty et with
      | some d, some es, some er => match findA d k es 0 with
        | some (some (_, v)) => some (match commaOk with | true => .tuple [v, .lit (.bool true)] | false => v)
        | some none => match er.info.zero with
          | some z => some (match commaOk with | true => .tuple [ofValue z, .lit (.bool false)] | false => ofValue z)
          | none => none
        | none => none
      | _, _, _ => none
    | _ => none
def setAt {α : Type} : List α → Nat → α → List α
  | [], _, _ => []
  | _ :: l, 0, a => a :: l
  | x :: l, i + 1, a => x :: setAt l i a
def bornAt (es : List (AV × AV × Nat)) (i : Nat) : Nat :=
  match es[i]? with
  | some e => e.2.2
  | none => 0
def updateA (E : Env) (σ : AS) (t : TypeId) (x k v : AV) : Option AS :=
  match E.ty t with
  | none => none
  | some r => match r.und, x with
    | .map kt _, .map o => match keyTy E kt k, σ.heap.get o with
      | some d, some (.map es clock) => match findA d k es 0 with
        | some (some (i, _)) => some { σ with heap := σ.heap.put o (.map (setAt es i (k, v, bornAt es i)) clock) }
        | some none => some { σ with heap := σ.heap.put o (.map (es ++ [(k, v, clock)]) (clock + 1)) }
        | none => none
      | _, _ => none
    | _, _ => none
def deleteA (E : Env) (σ : AS) (t : TypeId) (x k : AV) : Option AS :=
  match E.ty t with
  | none => none
  | some r => match r.und, x with
    | .map kt _, .map o => match keyTy E kt k, σ.heap.get o with
      | some d, some (.map es clock) => match findA d k es 0 with
        | some (some (i, _)) => some { σ with heap := σ.heap.put o (.map (es.eraseIdx i) clock) }
        | some none => some { σ with heap := σ.heap.put o (.map es clock) }
        | none => none
      | _, _ => none
    | _, _ => none
def storeA (E : Env) (σ : AS) (t : TypeId) (a v : AV) : Option AS :=
  match a, E.ty t with
  | .ptr o off, some r => match σ.heap.get o with
    | some (.cells l elem) =>
      match Nat.beq v.cells.length r.info.size && v.cells.all AV.one && Nat.ble (off + r.info.size) l.length with
      | true => some { σ with heap := σ.heap.put o (.cells (setFrom l off v.cells) elem) }
      | false => none
    | _ => none
  | _, _ => none
def lenA (E : Env) (σ : AS) (t : TypeId) (x : AV) : Option AV :=
  match E.ty t with
  | none => none
  | some r => match r.und, x with
    | .string, .lit (.string s) => some (.lit (goInt s.size))
    | .array n _, _ => some (.lit (goInt n))
    | .slice _, .slice _ _ n _ => some (.lit (goInt n))
    | .slice _, .lit (.slice _ n _) => some (.lit (goInt n))
    | .map _ _, x => match mapEs σ x with
      | some es => some (.lit (goInt es.length))
      | none => none
    | _, _ => none
def firstA (σ : AS) (size n : Nat) : AV → Option (List AV)
  | .slice o off len _ => match n with
    | 0 => some []
    | n + 1 => match σ.heap.get o with
      | some (.cells l _) => match Nat.ble (off + (n + 1) * size) l.length && Nat.ble (n + 1) len with
        | true => some ((l.drop off).take ((n + 1) * size))
        | false => none
      | _ => none
  | .lit (.slice none _ _) => some []
  | .lit (.string s) => some (((s.data.toList).take n).map fun b => .lit (.int .u8 b.toNat))
  | _ => none
def lenOfA : AV → Option Nat
  | .slice _ _ n _ => some n
  | .lit (.slice none n _) => some n
  | .lit (.string s) => some s.size
  | _ => none
def fixT (t : TypeId) : Bool := Nat.beq t 67 || Nat.beq t 102
def isCells (t : TypeId) : Option AObj → Bool
  | some (.cells _ e) => Nat.beq e t
  | _ => false
def appendA (E : Env) (σ : AS) (t : TypeId) (s x : AV) : Option (AV × AS) :=
  match E.ty t with
  | none => none
  | some r => match r.und with
    | .slice elem => match E.ty elem, lenOfA x, lenOfA s with
      | some er, some (n + 1), some len =>
        let size := er.info.size
        match firstA σ size (n + 1) x, firstA σ size len s, er.info.zero with
        | some new, some old, some z =>
          match Nat.ble (len + (n + 1)) 65536 && Nat.ble er.info.bytes 65536 && Nat.blt σ.next lim && Nat.beq (ofValue z).cells.length size && Nat.beq old.length (len * size) && Nat.beq new.length ((n + 1) * size) && new.all AV.one && !fixT elem with
          | false => none
          | true =>
            let v : AV := .slice σ.next 0 (len + (n + 1)) (.grown size)
            let ob : AObj := .cells (old ++ new) elem
            match s with
            | .lit (.slice none _ 0) => some (v, { heap := σ.heap.put σ.next ob, next := σ.next + 1 })
            | .slice o off _ cap => match cap with
              | .grown s => match Nat.beq s size && isCells elem (σ.heap.get o) with
                | true => some (v, { heap := (σ.heap.put o .dead).put σ.next ob, next := σ.next + 1 })
                | false => none
              | .k c => match Nat.ble (len + (n + 1)) c with
                | false => some (v, { heap := σ.heap.put σ.next ob, next := σ.next + 1 })
                | true => match σ.heap.get o with
                  | some (.cells l e) => match Nat.ble (off + len * size + new.length) l.length with
                    | true => some (.slice o off (len + (n + 1)) (.k c), { σ with heap := σ.heap.put o (.cells (setFrom l (off + len * size) new) e) })
                    | false => none
                  | _ => none
            | _ => none
        | _, _, _ => none
      | some _, some 0, some _ => match s with
        | .slice .. => some (s, σ)
        | .lit (.slice none l c) => match Nat.ble l c with
          | true => some (s, σ)
          | false => none
        | _ => none
      | _, _, _ => none
    | _ => none
def copyA (E : Env) (σ : AS) (t : TypeId) (d x : AV) : Option (AV × AS) :=
  match E.ty t with
  | none => none
  | some r => match r.und with
    | .slice elem => match E.ty elem, lenOfA x, d with
      | some er, some n, .slice o off len _ =>
        match Nat.min n len with
        | 0 => some (.lit (goInt 0), σ)
        | k + 1 => match firstA σ er.info.size (k + 1) x, σ.heap.get o with
          | some new, some (.cells l e) => match Nat.ble (off + new.length) l.length && new.all AV.one with
            | true => some (.lit (goInt (k + 1 : Nat)), { σ with heap := σ.heap.put o (.cells (setFrom l off new) e) })
            | false => none
          | _, _ => none
      | _, _, _ => none
    | _ => none
def pushBytes : List AV → ByteArray → Option ByteArray
  | [], s => some s
  | .lit (.int .u8 n) :: l, s => pushBytes l (s.push (UInt8.ofNat n.toNat))
  | _, _ => none
def convA (E : Env) (σ : AS) (src dst : TypeId) (x : AV) : Option Out :=
  match E.ty src, E.ty dst with
  | some sr, some dr => match dr.und, x with
    | .int k, .lit (.int _ n) => some (.pure (.lit (.int k (k.wrap n))))
    | .string, .lit (.string s) => some (.pure (.lit (.string s)))
    | .string, x => match sr.und with
      | .slice e => match E.ty e with
        | some er => match er.und with
          | .int .u8 => match x with
            | .lit (.slice none _ _) => some (.read (.lit (.string .empty)))
            | .slice _ _ len _ => match firstA σ 1 len x with
              | some l => (pushBytes l .empty).map fun s => .read (.lit (.string s))
              | none => none
            | _ => none
          | _ => none
        | none => none
      | _ => none
    | _, _ => none
  | _, _ => none
def minmaxFrom (f : Value → Value → Sem Value) : AV → List AV → Option AV
  | v, [] => some v
  | .lit (.int k a), .lit (.int k' b) :: rest => match semVal (f (.int k a) (.int k' b)) with
    | some v => minmaxFrom f v rest
    | none => none
  | _, _ => none
def minmax (f : Value → Value → Sem Value) : List AV → Option AV
  | [] => none
  | v :: l => minmaxFrom f v l
def iterA (σ : AS) (it : AV) : Option (AV × AS) :=
  match it with
  | .ptr r 0 => match σ.heap.get r with
    | some (.iter m since seen last) => match σ.heap.get m with
      | some (.map es clock) =>
        match !seen.isEmpty && !es.isEmpty && es.all (fun e => Nat.ble last e.2.2) with
        | true => none
        | false =>
          let left := es.filter fun e => !seen.contains e.2.2
          let old := left.filter fun e => Nat.blt e.2.2 since
          let new := left.filter fun e => Nat.ble since e.2.2
          match old, new with
          | [], [] => some (.tuple [.lit (.bool false)], σ)
          | [(k, v, born)], [] => some (.tuple [.lit (.bool true), k, v], { σ with heap := σ.heap.put r (.iter m since (seen ++ [born]) clock) })
          | _, _ => none
      | _ => none
    | _ => none
  | _ => none
def entryA (σ : AS) (it : AV) : Option AV :=
  match it with
  | .ptr r 0 => match σ.heap.get r with
    | some (.iter m _ seen stepped) => match seen.getLast?, σ.heap.get m with
      | some stamp, some (.map es clock) => match Nat.beq clock stepped, es.find? (fun e => Nat.beq e.2.2 stamp) with
        | true, some (k, v, _) => some (.tuple [k, v])
        | _, _ => none
      | _, _ => none
    | _ => none
  | _ => none
def argsA (t : Tmps) (l : List Operand) : Option (List AV) := allSome (l.map (opnd t))
def fnCall (f : AV) (args : List AV) : Option Out :=
  match f with
  | .lit (.func (.func f) first cap) => some (.call f (first.toList.map .lit ++ args ++ cap.toList.map .lit))
  | .func (.func f) first cap => some (.call f (first ++ args ++ cap))
  | _ => none
def builtinA (E : Env) (σ : AS) (b : Builtin) (ts : List TypeId) (args : List AV) : Option Out :=
  match b, ts, args with
  | .len, t :: _, x :: _ => (lenA E σ t x).map .read
  | .append, t :: _, [s, x] => match ts with
    | [_, xt] => match E.ty xt with
      | some xr => match xr.und with
        | .int _ => none
        | _ => (appendA E σ t s x).map fun r => .act r.1 r.2
      | none => none
    | _ => none
  | .copy, t :: _, [d, x] => (copyA E σ t d x).map fun r => .act r.1 r.2
  | .delete, t :: _, [m, k] => (deleteA E σ t m k).map fun σ => .act undefV σ
  | .min, _, l => (minmax Builtin.min2 l).map .pure
  | .max, _, l => (minmax Builtin.max2 l).map .pure
  | _, _, _ => none
def evOp (E : Env) (t : Tmps) (σ : AS) : Op → Option Out
  | .move x => (opnd t x).map .pure
  | .assign x => (opnd t x).map fun v => .act v σ
  | .pick c a b => match opnd t c with
    | some (.lit (.bool true)) => (opnd t a).map .pure
    | some (.lit (.bool false)) => (opnd t b).map .pure
    | _ => none
  | .alloc elem => match E.ty elem with
    | some r => r.info.zero.map fun z => .new (.cells (ofValue z).cells elem) .ptr
    | none => none
  | .box elem x => (opnd t x).map fun v => .new (.cells v.cells elem) .ptr
  | .build ty parts => match E.ty ty, argsA t (parts.toList.map (·.2)) with
    | some r, some vs => match r.info.zero with
      | some z => match r.und with
        | .struct fs => match places E fs.toList with
          | some ps => (fillA (ps[·]?) (ofValue z).cells ((parts.toList.map (·.1)).zip vs)).map fun l => .pure (.agg l)
          | none => none
        | .array _ elem => match E.ty elem with
          | some er => (fillA (fun i => some (i * er.info.size, er.info.size)) (ofValue z).cells ((parts.toList.map (·.1)).zip vs)).map fun l => .pure (.agg l)
          | none => none
        | _ => none
      | none => none
    | _, _ => none
  | .buildSlice ty len parts => match E.ty ty, argsA t (parts.toList.map (·.2)) with
    | some r, some vs => match r.und with
      | .slice elem => match E.ty elem with
        | some er => match er.info.zero with
          | some z => match Nat.ble (len * er.info.size) 65536 && Nat.beq (ofValue z).cells.length er.info.size with
            | true => (fillA (fun i => some (i * er.info.size, er.info.size)) (rep len (ofValue z).cells) ((parts.toList.map (·.1)).zip vs)).map fun l => .new (.cells l elem) (.slice len len)
            | false => none
          | none => none
        | none => none
      | _ => none
    | _, _ => none
  | .load ty a => match opnd t a with
    | some (.ptr o off) => (loadAt E σ ty o off).map .read
    | _ => none
  | .store ty a v => match opnd t a, opnd t v with
    | some a, some v => (storeA E σ ty a v).map fun σ => .act undefV σ
    | _, _ => none
  | .nilCheck x => match opnd t x with
    | some (.ptr o off) => some (.pure (.ptr o off))
    | some (.lit (.func (.func f) a b)) => some (.pure (.lit (.func (.func f) a b)))
    | some (.func (.func f) a b) => some (.pure (.func (.func f) a b))
    | some (.iface ty v) => some (.pure (.iface ty v))
    | _ => none
  | .binOp op ty x y _ => match opnd t x, opnd t y with
    | some x, some y => (binA E op ty x y).map .pure
    | _, _ => none
  | .unOp op _ x => match opnd t x with
    | some x => (unA op x).map .pure
    | none => none
  | .convert src dst x => match opnd t x with
    | some x => convA E σ src dst x
    | none => none
  | .makeInterface ty x => match E.ty ty, opnd t x with
    | some r, some v => match r.und with
      | .interface _ => none
      | _ => some (.pure (.iface ty v))
    | _, _ => none
  | .makeFunc fn first cap => match argsA t first.toList, argsA t cap.toList with
    | some a, some b => some (.pure (.func fn a b))
    | _, _ => none
  | .makeMap _ r => match r with
    | none => some (.new (.map [] 0) .map)
    | some _ => none
  | .makeSlice ty l c => match E.ty ty, opnd t l, opnd t c with
    | some r, some l, some c => match r.und, natOf l, natOf c with
      | .slice elem, some l, some c => match E.ty elem with
        | some er => match er.info.zero with
          | some z => match Nat.ble l c && Nat.ble c 65536 && Nat.ble er.info.bytes 65536 && Nat.beq (ofValue z).cells.length er.info.size with
            | true => some (.new (.cells (rep c (ofValue z).cells) elem) (.slice l c))
            | false => none
          | none => none
        | none => none
      | _, _, _ => none
    | _, _, _ => none
  | .slice ty x lo hi mx => match opnd t x, optOp t lo, optOp t hi, optOp t mx with
    | some x, some lo, some hi, some mx => (sliceA E ty x lo hi mx).map .pure
    | _, _, _, _ => none
  | .fieldAddr ty x f => match E.ty ty, opnd t x with
    | some r, some (.ptr o off) => match r.und with
      | .struct fs => match fs[f]? with
        | some fd => match E.ty fd.type with
          | some fr => match Nat.beq fr.info.size 0 with
            | false => some (.pure (.ptr o (off + fd.offset)))
            | true => none
          | none => none
        | none => none
      | _ => none
    | _, _ => none
  | .field ty x f => match E.ty ty, opnd t x with
    | some r, some (.agg cs) => match r.und with
      | .struct fs => match fs[f]? with
        | some fd => (partOf E fd.type cs fd.offset).map .pure
        | none => none
      | _ => none
    | _, _ => none
  | .indexAddr ty x i => match E.ty ty, opnd t x, opnd t i with
    | some r, some x, some i => match r.und, x, natOf i with
      | .array len elem, .ptr o off, some i => match E.ty elem, Nat.blt i len with
        | some er, true => some (.pure (.ptr o (off + i * er.info.size)))
        | _, _ => none
      | .slice elem, .slice o off len _, some i => match E.ty elem, Nat.blt i len with
        | some er, true => some (.pure (.ptr o (off + i * er.info.size)))
        | _, _ => none
      | _, _, _ => none
    | _, _, _ => none
  | .index ty x i => match E.ty ty, opnd t x, opnd t i with
    | some r, some x, some i => match r.und, x, natOf i with
      | .array len elem, .agg cs, some i => match E.ty elem, Nat.blt i len with
        | some er, true => (partOf E elem cs (i * er.info.size)).map .pure
        | _, _ => none
      | .string, .lit (.string s), some i => match s.data.toList[i]? with
        | some b => some (.pure (.lit (.int .u8 b.toNat)))
        | none => none
      | _, _, _ => none
    | _, _, _ => none
  | .lookup ty x k ok => match opnd t x, opnd t k with
    | some x, some k => (lookupA E σ ty x k ok).map .read
    | _, _ => none
  | .mapUpdate ty m k v => match opnd t m, opnd t k, opnd t v with
    | some m, some k, some v => (updateA E σ ty m k v).map fun σ => .act undefV σ
    | _, _, _ => none
  | .insert ty m k v => match opnd t m, opnd t k, opnd t v with
    | some m, some k, some v => (updateA E σ ty m k v).map fun σ => .act undefV σ
    | _, _, _ => none
  | .range ty x => match E.ty ty, opnd t x with
    | some r, some (.map o) => match r.und, σ.heap.get o with
      | .map _ _, some (.map _ clock) => match Nat.blt σ.next lim with
        | true => some (.act (.ptr σ.next 0) { heap := σ.heap.put σ.next (.iter o clock [] clock), next := σ.next + 1 })
        | false => none
      | _, _ => none
    | _, _ => none
  | .next it isString => match isString, opnd t it with
    | false, some it => (iterA σ it).map fun r => .act r.1 r.2
    | _, _ => none
  | .entry it => match opnd t it with
    | some it => (entryA σ it).map .read
    | none => none
  | .typeAssert x _ asserted ok => match E.ty asserted, opnd t x with
    | some r, some (.iface ty v) => match r.und, Nat.beq ty asserted with
      | .interface _, _ => none
      | _, true => some (.pure (match ok with | true => .tuple [v, .lit (.bool true)] | false => v))
      | _, false => none
    | _, _ => none
  | .extract x i => match opnd t x with
    | some (.tuple vs) => (vs[i]?).map .pure
    | some (.lit (.tuple vs)) => (vs[i]?).map fun v => .pure (.lit v)
    | _ => none
  | .call c => match argsA t c.args.toList with
    | none => none
    | some args => match c.callee with
      | .value f => match opnd t f with
        | some f => fnCall f args
        | none => none
      | .builtin b => builtinA E σ b c.argTypes.toList args
      | .invoke x name => match opnd t x with
        | some (.iface ty v) => match E.ty ty with
          | some r => match r.info.methods.find? (·.name == name), r.und with
            | some m, .pointer _ => match m.path.isEmpty, m.func with
              | true, some (f, true) => some (.call f (v :: args))
              | _, _ => none
            | _, _ => none
          | none => none
        | _ => none
  | _ => none
def early : Op → Bool
  | .assign _ | .store .. | .mapUpdate .. | .insert .. | .range .. | .next .. => false
  | .call c => match c.callee with
    | .builtin .len | .builtin .min | .builtin .max => true
    | _ => false
  | _ => true
def wantedA (ops : List Oper) (t : Tmps) (o : Oper) : Option Bool :=
  match o.guard with
  | none => some true
  | some (j, want) => match ops[j]? with
    | some p => match p.dst with
      | some d => match t.get d with
        | some (.lit (.bool b)) => some (b == want)
        | some (.lit (.tuple _)) => some false
        | _ => none
      | none => none
    | none => none
def putA (n : Nat) (t : Tmps) (d : Option Nat) (v : AV) : Option Tmps :=
  match d with
  | none => some t
  | some d => match Nat.blt d n with
    | true => some (t.put d v)
    | false => none
mutual
def AV.flat : AV → Option Value
  | .lit v => some v
  | .agg l => match AV.flats l with
    | some xs => some (.agg xs.toArray)
    | none => none
  | .tuple l => match AV.flats l with
    | some xs => some (.tuple xs.toArray)
    | none => none
  | .iface t v => match AV.flat v with
    | some x => some (.iface t x)
    | none => none
  | _ => none
def AV.flats : List AV → Option (List Value)
  | [] => some []
  | v :: l => match AV.flat v, AV.flats l with
    | some x, some xs => some (x :: xs)
    | _, _ => none
end
abbrev Cb := Nat → List AV → AS → Option (AV × AS)
def stepV (E : Env) (cb : Cb) (ops : List Oper) (o : Oper) (t : Tmps) (σ : AS) : Option (AV × AS × Nat) :=
  match wantedA ops t o with
  | none => none
  | some false => some (undefV, σ, 0)
  | some true => match evOp E t σ o.op with
    | none => none
    | some (.pure v) => some (v, σ, 0)
    | some (.read v) => some (v, σ, 1)
    | some (.new ob k) => match Nat.blt σ.next lim with
      | true => some (k.val σ.next, { heap := σ.heap.put σ.next ob, next := σ.next + 1 }, 2)
      | false => none
    | some (.act v σ) => some (v, σ, 2)
    | some (.call f args) => match E.lone f && (AV.flats args).isSome with
      | true => match cb f args ⟨.e, 0⟩ with
        | some (v, _) => match v.flat with
          | some _ => some (v, σ, 3)
          | none => none
        | none => none
      | false => match cb f args σ with
        | some (v, σ) => some (v, σ, 2)
        | none => none
def runA (E : Env) (cb : Cb) (n : Nat) (ops : List Oper) : List Oper → Tmps → AS → Option (Tmps × AS)
  | [], t, σ => some (t, σ)
  | o :: rest, t, σ => match stepV E cb ops o t σ with
    | some (v, σ, _) => match putA n t o.dst v with
      | some t => runA E cb n ops rest t σ
      | none => none
    | none => none
def predMask : List Edge → Nat
  | [] => 0
  | e :: l => match Region.binds .any e with
    | true => Nat.lor (Nat.shiftLeft 1 e.on) (predMask l)
    | false => predMask l
structure Row where
  i : Nat
  o : Oper
  pm : Nat
  early : Bool
  looks : List Nat
def rowsFrom (ops : Array Oper) : Nat → List Oper → List Row
  | _, [] => []
  | i, o :: l => ⟨i, o, predMask o.after.toList, early o.op, o.looksAt ops⟩ :: rowsFrom ops (i + 1) l
def has (m i : Nat) : Bool := Nat.testBit m i
def ready (done : Nat) (r : Row) : Bool := Nat.beq (Nat.land r.pm done) r.pm
def memN : List Nat → Nat → Bool
  | [], _ => false
  | x :: l, n => match Nat.beq x n with | true => true | false => memN l n
def pairOk (a b : Row) : Bool :=
  match a.o.dst with
  | none => true
  | some d =>
    (match memN b.looks d with
     | false => true
     | true => has b.pm a.i || (has a.pm b.i && !a.early)) &&
    (match b.o.dst with
     | none => true
     | some d' => match Nat.beq d d' with
       | false => true
       | true => (has b.pm a.i || has a.pm b.i) && !a.early && !b.early)
def selfOk (r : Row) : Bool :=
  match r.early, r.o.dst with
  | true, some d => !memN r.looks d
  | _, _ => true
def indep : List Row → Bool
  | [] => true
  | r :: l => Nat.blt r.pm (Nat.shiftLeft 1 r.i) && selfOk r && l.all (fun q => pairOk r q && pairOk q r) && indep l
def vsame : Value → Value → Bool
  | .bool a, .bool b => a == b
  | .int k a, .int k' b => (if k = k' then true else false) && a == b
  | .string a, .string b => a.data.toList == b.data.toList
  | .pointer none, .pointer none => true
  | .map none, .map none => true
  | .slice none a b, .slice none c d => Nat.beq a c && Nat.beq b d
  | .nilFunc, .nilFunc => true
  | .nilIface, .nilIface => true
  | _, _ => false
mutual
def AV.same : AV → AV → Bool
  | .lit a, .lit b => vsame a b
  | .ptr a b, .ptr c d => Nat.beq a c && Nat.beq b d
  | .slice a b c d, .slice a' b' c' d' => Nat.beq a a' && Nat.beq b b' && Nat.beq c c' && (match d, d' with | .grown x, .grown y => Nat.beq x y | .k x, .k y => Nat.beq x y | _, _ => false)
  | .map a, .map b => Nat.beq a b
  | .iface a b, .iface c d => Nat.beq a c && AV.same b d
  | .agg a, .agg b => AV.sames a b
  | .tuple a, .tuple b => AV.sames a b
  | _, _ => false
def AV.sames : List AV → List AV → Bool
  | [], [] => true
  | a :: l, b :: m => AV.same a b && AV.sames l m
  | _, _ => false
end
def again (E : Env) (pm : Nat) (t : Tmps) (σ : AS) : List Row → Bool
  | [] => true
  | r :: l => (has pm r.i || (match evOp E t σ r.o.op, r.o.dst with
      | some (.read v), some d => match t.get d with
        | some u => AV.same u v
        | none => false
      | some (.read _), none => true
      | _, _ => false)) && again E pm t σ l
def pickRow (p : Row → Bool) : List Row → Option (Row × List Row)
  | [] => none
  | r :: l => match p r with
    | true => some (r, l)
    | false => match pickRow p l with
      | some (q, m) => some (q, r :: m)
      | none => none
def drawA (E : Env) (cb : Cb) (n : Nat) (ops : List Oper) : Nat → Nat → List Row → List Row → Tmps → AS → Option (Tmps × AS)
  | 0, _, _, _, _, _ => none
  | fuel + 1, done, rem, rd, t, σ =>
    match rem with
    | [] => some (t, σ)
    | _ :: _ => match pickRow (fun r => r.early && ready done r) rem with
      | some (r, rem) => match stepV E cb ops r.o t σ with
        | some (v, σ, tag) => match putA n t r.o.dst v with
          | some t => match tag with
            | 0 => drawA E cb n ops fuel (Nat.lor done (Nat.shiftLeft 1 r.i)) rem rd t σ
            | 1 => drawA E cb n ops fuel (Nat.lor done (Nat.shiftLeft 1 r.i)) rem (r :: rd) t σ
            | _ => match again E 0 t σ rd with
              | true => drawA E cb n ops fuel (Nat.lor done (Nat.shiftLeft 1 r.i)) rem rd t σ
              | false => none
          | none => none
        | none => none
      | none => match pickRow (ready done) rem with
        | none => none
        | some (r, rem) => match rem.all (fun q => !ready done q) with
          | false => none
          | true => match stepV E cb ops r.o t σ with
            | some (v, σ, tag) => match putA n t r.o.dst v with
              | some t => match Nat.beq tag 3 || again E r.pm t σ rd with
                | true => drawA E cb n ops fuel (Nat.lor done (Nat.shiftLeft 1 r.i)) rem rd t σ
                | false => none
              | none => none
            | none => none
def regionA (E : Env) (cb : Cb) (n : Nat) (ops : Array Oper) (draw : Bool) (t : Tmps) (σ : AS) : Option (Tmps × AS) :=
  match draw with
  | false => runA E cb n ops.toList ops.toList t σ
  | true =>
    let rows := rowsFrom ops 0 ops.toList
    match indep rows with
    | false => none
    | true => drawA E cb n ops.toList (ops.toList.length + 1) 0 rows [] t σ
inductive AExit where
  | normal | exit (id : Nat) | goto (l : Nat) | ret
def evCode (E : Env) (cb : Cb) (nt : Nat) : Nat → Code → Tmps → AS → Option (AExit × Tmps × AS)
  | 0, _, _, _ => none
  | f + 1, c, t, σ => match c with
    | .skip | .label _ => some (.normal, t, σ)
    | .ret => some (.ret, t, σ)
    | .exit id => some (.exit id, t, σ)
    | .goto l => some (.goto l, t, σ)
    | .region _ ops draw => (regionA E cb nt ops draw t σ).map fun r => (.normal, r.1, r.2)
    | .seq a b => match evCode E cb nt f a t σ with
      | some (.normal, t, σ) => evCode E cb nt f b t σ
      | r => r
    | .cond c a b => match opnd t c with
      | some (.lit (.bool true)) => evCode E cb nt f a t σ
      | some (.lit (.bool false)) => evCode E cb nt f b t σ
      | _ => none
    | .block id b => match evCode E cb nt f b t σ with
      | some (.exit id', t, σ) => match Nat.beq id' id with
        | true => some (.normal, t, σ)
        | false => some (.exit id', t, σ)
      | r => r
    | .loop b => match evCode E cb nt f b t σ with
      | some (.normal, t, σ) => evCode E cb nt f (.loop b) t σ
      | r => r
    | .scope b => match evCode E cb nt f b t σ with
      | some (.goto _, _, _) => none
      | r => r
    | _ => none
def setArgs : Nat → List AV → Tmps → Tmps
  | _, [], t => t
  | i, v :: l, t => setArgs (i + 1) l (t.put i v)
def resultA (E : Env) (t : Tmps) (σ : AS) : ResultVar → Option AV
  | .tmp i => t.get i
  | .cell a ty => match t.get a with
    | some (.ptr o off) => loadAt E σ ty o off
    | _ => none
def resultsA (E : Env) (t : Tmps) (σ : AS) (rs : List ResultVar) : Option AV :=
  match allSome (rs.map (resultA E t σ)) with
  | some [v] => some v
  | some [] => some undefV
  | some l => some (.tuple l)
  | none => none
def orHv (a b : Cb) : Cb := fun f args σ => match a f args σ with
  | some r => some r
  | none => b f args σ
def evCall (E : Env) (hv : Cb) : Nat → Cb
  | 0, _, _, _ => none
  | d + 1, f, args, σ => match hv f args σ with
    | some r => some r
    | none => match E.fn f with
      | none => none
      | some fn => match fn.body with
        | none => none
        | some c => match Nat.ble args.length fn.ntmps && Nat.ble fn.ntmps 65536 with
          | false => none
          | true => match evCode E (evCall E hv d) fn.ntmps 100000 c (setArgs 0 args .e) σ with
            | some (.normal, t, σ) => (resultsA E t σ fn.results.toList).map fun v => (v, σ)
            | some (.ret, t, σ) => (resultsA E t σ fn.results.toList).map fun v => (v, σ)
            | _ => none
end Go.Proofs.YtldjgpnbkbmgoaaGreatDoor.Ev

namespace Go.Proofs.YtldjgpnbkbmgoaaGreatDoor.Ev
theorem beq_t {i : Nat} (h : Nat.beq i 0 = true) : i = 0 := Nat.eq_of_beq_eq_true h
theorem beq_f {i : Nat} (h : Nat.beq i 0 = false) : i ≠ 0 := Nat.ne_of_beq_eq_false h
theorem T.set_e {α : Type} (a : α) (f i : Nat) : T.set (f + 1) .e i a = T.set (f + 1) (.n none .e .e) i a := by
  cases i with
  | zero => rfl
  | succ i => simp only [T.set]
theorem T.get_e {α : Type} (j : Nat) : (T.n (none : Option α) .e .e).get j = none := by
  cases j with
  | zero => rfl
  | succ j => simp only [T.get]; split <;> rfl
theorem T.get_set {α : Type} (a : α) : ∀ (f : Nat) (t : T α) (i j : Nat), i + 1 < 2 ^ f → (T.set f t i a).get j = if j = i then some a else t.get j := by
  intro f
  induction f with
  | zero => intro t i j h; simp at h
  | succ f ih =>
    have main : ∀ (v : Option α) (l r : T α) (i j : Nat), i + 1 < 2 ^ (f + 1) → (T.set (f + 1) (.n v l r) i a).get j = if j = i then some a else (T.n v l r).get j := by
      intro v l r i j h
      have hp : 2 ^ (f + 1) = 2 * 2 ^ f := by rw [Nat.pow_succ]; omega
      cases i with
      | zero =>
        cases j with
        | zero => simp [T.set, T.get]
        | succ j => simp [T.set, T.get]
      | succ i =>
        have hk : i / 2 + 1 < 2 ^ f := by omega
        simp only [T.set]
        cases hb : Nat.beq (i % 2) 0 <;> simp only [] <;> cases j with
        | zero => simp [T.get]
        | succ j =>
          simp only [T.get]
          cases hb' : Nat.beq (j % 2) 0 <;> simp only [] <;> try rw [ih _ _ _ hk]
          all_goals
            first | have h1 := beq_t hb | have h1 := beq_f hb
            first | have h2 := beq_t hb' | have h2 := beq_f hb'
            by_cases hij : j = i
            · subst hij; first | (exfalso; omega) | simp
            · rw [if_neg (by omega : ¬ j + 1 = i + 1)]
              try rw [if_neg (by omega)]
    intro t i j h
    cases t with
    | n v l r => exact main v l r i j h
    | e => rw [T.set_e, main none .e .e i j h, T.get_e]; rfl
theorem T.get_put {α : Type} (t : T α) (i j : Nat) (a : α) (h : i ≤ lim) : (t.put i a).get j = if j = i then some a else t.get j :=
  T.get_set a 21 t i j (by unfold lim at h; omega)
structure Place where
  block : Nat
  base : Nat
  top : Nat
abbrev Gam := Nat → Option (Option Place)
def atP (γ : Gam) (o off : Nat) (a : Addr) : Prop :=
  match γ o with
  | none => False
  | some none => True
  | some (some p) => a = ⟨p.block, p.base + off, none⟩
def topP (γ : Gam) (o n : Nat) : Prop :=
  match γ o with
  | none => False
  | some none => True
  | some (some p) => p.base + n ≤ p.top
def mapP (γ : Gam) (o r : Nat) : Prop :=
  match γ o with
  | none => False
  | some none => True
  | some (some p) => r = p.block
mutual
def Conc (γ : Gam) : AV → Value → Prop
  | .lit v, x => x = v
  | .ptr o off, x => ∃ a, x = .pointer (some a) ∧ atP γ o off a
  | .slice o off len cap, x => ∃ a c, x = .slice (some a) len c ∧ (c = 0 ∨ atP γ o off a) ∧ len ≤ c ∧ (match cap with
      | .k n => c = n
      | .grown size => topP γ o (off + c * size))
  | .map o, x => ∃ r, x = .map (some r) ∧ mapP γ o r
  | .func fn a b, x => ∃ a' b' : Array Value, x = .func fn a' b' ∧ Concs γ a a'.toList ∧ Concs γ b b'.toList
  | .iface t v, x => ∃ y, x = .iface t y ∧ Conc γ v y
  | .agg l, x => ∃ a : Array Value, x = .agg a ∧ Concs γ l a.toList
  | .tuple l, x => ∃ a : Array Value, x = .tuple a ∧ Concs γ l a.toList
def Concs (γ : Gam) : List AV → List Value → Prop
  | [], l => l = []
  | v :: vs, l => ∃ x xs, l = x :: xs ∧ Conc γ v x ∧ Concs γ vs xs
end
def Ext (γ γ' : Gam) : Prop := ∀ o p, γ o = some p → γ' o = some p ∨ γ' o = some none
theorem Ext.refl (γ : Gam) : Ext γ γ := fun _ _ h => .inl h
theorem Ext.trans {a b c : Gam} (h : Ext a b) (h' : Ext b c) : Ext a c := fun o p hp => by
  rcases h o p hp with e | e
  · exact h' o p e
  · rcases h' o none e with e' | e' <;> exact .inr e'
theorem atP.mono {γ γ' : Gam} (h : Ext γ γ') {o off : Nat} {a : Addr} (ha : atP γ o off a) : atP γ' o off a := by
  unfold atP at *
  cases hg : γ o with
  | none => rw [hg] at ha; exact ha.elim
  | some p =>
    rcases h o p hg with e | e
    · rw [e]; rw [hg] at ha; exact ha
    · rw [e]; trivial
theorem topP.mono {γ γ' : Gam} (h : Ext γ γ') {o n : Nat} (ha : topP γ o n) : topP γ' o n := by
  unfold topP at *
  cases hg : γ o with
  | none => rw [hg] at ha; exact ha.elim
  | some p =>
    rcases h o p hg with e | e
    · rw [e]; rw [hg] at ha; exact ha
    · rw [e]; trivial
theorem mapP.mono {γ γ' : Gam} (h : Ext γ γ') {o n : Nat} (ha : mapP γ o n) : mapP γ' o n := by
  unfold mapP at *
  cases hg : γ o with
  | none => rw [hg] at ha; exact ha.elim
  | some p =>
    rcases h o p hg with e | e
    · rw [e]; rw [hg] at ha; exact ha
    · rw [e]; trivial
mutual
theorem Conc.mono {γ γ' : Gam} (h : Ext γ γ') : ∀ (v : AV) (x : Value), Conc γ v x → Conc γ' v x
  | .lit _, _, hx => by unfold Conc at *; exact hx
  | .ptr _ _, _, hx => by
    unfold Conc at *
    obtain ⟨a, e, ha⟩ := hx
    exact ⟨a, e, ha.mono h⟩
  | .slice _ _ _ cap, _, hx => by
    unfold Conc at *
    obtain ⟨a, c, e, ha, hl, hc⟩ := hx
    refine ⟨a, c, e, ha.imp id (atP.mono h), hl, ?_⟩
    cases cap with
    | k n => exact hc
    | grown s => exact topP.mono h hc
  | .map _, _, hx => by
    unfold Conc at *
    obtain ⟨r, e, hr⟩ := hx
    exact ⟨r, e, hr.mono h⟩
  | .func _ l m, _, hx => by
    unfold Conc at *
    obtain ⟨a, b, e, h1, h2⟩ := hx
    exact ⟨a, b, e, Concs.mono h l _ h1, Concs.mono h m _ h2⟩
  | .iface _ v, _, hx => by
    unfold Conc at *
    obtain ⟨y, e, hy⟩ := hx
    exact ⟨y, e, Conc.mono h v y hy⟩
  | .agg l, _, hx => by
    unfold Conc at *
    obtain ⟨a, e, h1⟩ := hx
    exact ⟨a, e, Concs.mono h l _ h1⟩
  | .tuple l, _, hx => by
    unfold Conc at *
    obtain ⟨a, e, h1⟩ := hx
    exact ⟨a, e, Concs.mono h l _ h1⟩
theorem Concs.mono {γ γ' : Gam} (h : Ext γ γ') : ∀ (l : List AV) (x : List Value), Concs γ l x → Concs γ' l x
  | [], _, hx => by unfold Concs at *; exact hx
  | v :: vs, _, hx => by
    unfold Concs at *
    obtain ⟨x, xs, e, h1, h2⟩ := hx
    exact ⟨x, xs, e, Conc.mono h v x h1, Concs.mono h vs xs h2⟩
end
end Go.Proofs.YtldjgpnbkbmgoaaGreatDoor.Ev
namespace Go.Proofs.YtldjgpnbkbmgoaaGreatDoor.Ev
def EntRel (γ : Gam) : List (AV × AV × Nat) → List MapEntry → Prop
  | [], l => l = []
  | (k, v, b) :: es, l => ∃ k' v' rest, l = ⟨k', v', b⟩ :: rest ∧ Conc γ k k' ∧ Conc γ v v' ∧ EntRel γ es rest
def ObjRel (γ : Gam) (ob : AObj) (p : Place) (w : World) : Prop :=
  match ob with
  | .cells l elem => ∃ c, w.heap[p.block]? = some (.cells c elem (0, 0)) ∧ (c.size = p.top ∧ (fixT elem = true → p.base = 0 ∧ l.length = p.top)) ∧ p.base + l.length ≤ p.top ∧ ∀ i v, l[i]? = some v → ∃ x, c[p.base + i]? = some x ∧ Conc γ v x
  | .map es clock => ∃ es' : Array MapEntry, w.heap[p.block]? = some (.map es' clock) ∧ EntRel γ es es'.toList
  | .iter m since seen stepped => p.base = 0 ∧ ∃ r, w.heap[p.block]? = some (.mapIter (some r) since seen.toArray stepped) ∧ mapP γ m r
  | .dead => True
structure Rel (γ : Gam) (σ : AS) (w : World) : Prop where
  dom : ∀ o, σ.next ≤ o → γ o = none
  obj : ∀ o p, γ o = some (some p) → ∃ ob, σ.heap.get o = some ob ∧ ObjRel γ ob p w
  gone : ∀ o, γ o = some none → σ.heap.get o = some .dead
  inj : ∀ o o' p p', γ o = some (some p) → γ o' = some (some p') → p.block = p'.block → o = o'
  lim : σ.next ≤ lim
structure Step (γ : Gam) (σ : AS) (γ' : Gam) (σ' : AS) : Prop where
  ext : Ext γ γ'
  new : ∀ o, o < σ.next → γ o = none → γ' o = none
  le : σ.next ≤ σ'.next
  same : ∀ o, o < σ.next → γ o = none → σ'.heap.get o = σ.heap.get o
theorem Step.refl (γ : Gam) (σ : AS) : Step γ σ γ σ := ⟨.refl γ, fun _ _ h => h, Nat.le_refl _, fun _ _ _ => rfl⟩
theorem Step.trans {γ γ1 γ2 : Gam} {σ σ1 σ2 : AS} (h : Step γ σ γ1 σ1) (h' : Step γ1 σ1 γ2 σ2) : Step γ σ γ2 σ2 :=
  ⟨h.ext.trans h'.ext, fun o ho hg => h'.new o (Nat.lt_of_lt_of_le ho h.le) (h.new o ho hg), Nat.le_trans h.le h'.le,
    fun o ho hg => (h'.same o (Nat.lt_of_lt_of_le ho h.le) (h.new o ho hg)).trans (h.same o ho hg)⟩
theorem Rel.find {γ : Gam} {σ : AS} {w : World} (h : Rel γ σ w) {o : Nat} {ob : AObj} (hg : σ.heap.get o = some ob) (hd : ob ≠ .dead) (hn : γ o ≠ none) :
    ∃ p, γ o = some (some p) ∧ ObjRel γ ob p w := by
  cases hp : γ o with
  | none => exact absurd hp hn
  | some q =>
    cases q with
    | none =>
      have := h.gone o hp
      rw [hg] at this
      exact absurd (Option.some.inj this) hd
    | some p =>
      obtain ⟨ob', h1, h2⟩ := h.obj o p hp
      rw [hg] at h1
      cases h1
      exact ⟨p, rfl, h2⟩
theorem atP.ne {γ : Gam} {o off : Nat} {a : Addr} (h : atP γ o off a) : γ o ≠ none := fun e => by unfold atP at h; rw [e] at h; exact h
theorem mapP.ne {γ : Gam} {o r : Nat} (h : mapP γ o r) : γ o ≠ none := fun e => by unfold mapP at h; rw [e] at h; exact h
theorem atP.at {γ : Gam} {o off : Nat} {a : Addr} {p : Place} (h : atP γ o off a) (hp : γ o = some (some p)) : a = ⟨p.block, p.base + off, none⟩ := by
  unfold atP at h; rw [hp] at h; exact h
theorem mapP.at {γ : Gam} {o r : Nat} {p : Place} (h : mapP γ o r) (hp : γ o = some (some p)) : r = p.block := by
  unfold mapP at h; rw [hp] at h; exact h
structure EnvOk (P : Program) (E : Env) : Prop where
  info : ∀ t r, E.ty t = some r → ∀ w, (typeInfo t).run P w = .ok r.info w
  und : ∀ t r, E.ty t = some r → P.underlying t = some r.und
  fn : ∀ f fn, E.fn f = some fn → P.funcs[f]? = some fn ∧ ∀ args w, (callFunc f args).run P w = .ok (.enter f args) w
  wide : P.follows .mixedOrders = true
  guard : ∀ t r n, E.ty t = some r → r.flat = some n → P.eqGuardType P.depth t = false
  eq : ∀ t r n, E.ty t = some r → r.flat = some n → ∀ (xs ys : List Value) b w, xs.length = n → ys.length = n → fits r.kinds (xs.map .lit) = true → flatEq (xs.map .lit) (ys.map .lit) = some b →
    (Op.equalIn Op.maxDepth t (.agg xs.toArray) (.agg ys.toArray)).run P w = .ok b w
  key : ∀ t r n k e, E.ty t = some r → r.flat = some n → r.und = .array k e → ∀ (xs : List Value) b w, xs.length = n → (Instr.checkKey b 10000 t (.agg xs.toArray)).run P w = .ok () w
section
variable {P : Program} {E : Env} (hE : EnvOk P E) {t : TypeId} {r : TyRow} (h : E.ty t = some r) (w : World)
include hE h
theorem run_und : (underlying t).run P w = .ok r.und w := run_underlying (hE.und t r h) w
theorem run_info : (typeInfo t).run P w = .ok r.info w := hE.info t r h w
theorem run_size : (Go.sizeOf t).run P w = .ok r.info.size w := by simp [Go.sizeOf, run_info hE h]
theorem run_zero {z : Value} (hz : r.info.zero = some z) : (zeroValue t).run P w = .ok z w := by simp [zeroValue, run_info hE h, hz]
theorem run_agg : (isAgg t).run P w = .ok (isAggD r.und) w := by
  unfold isAgg
  simp only [Sem.run_bind, run_und hE h, Result.andThen_ok]
  cases r.und <;> rfl
end
structure ConcT (γ : Gam) (n : Nat) (t : Tmps) (a : Act) : Prop where
  size : n ≤ a.tmps.size
  defers : a.defers = []
  get : ∀ i v, t.get i = some v → ∃ x, a.tmps[i]? = some x ∧ Conc γ v x
theorem concs_lits (γ : Gam) : ∀ l : List Value, Concs γ (l.map .lit) l
  | [] => by simp [Concs]
  | v :: l => by
    simp only [List.map_cons, Concs]
    exact ⟨v, l, rfl, rfl, concs_lits γ l⟩
theorem conc_lit (γ : Gam) (v : Value) : Conc γ (.lit v) v := by simp [Conc]
theorem conc_lit_iff {γ : Gam} {v x : Value} : Conc γ (.lit v) x ↔ x = v := by simp [Conc]
theorem conc_ofValue (γ : Gam) (v : Value) : Conc γ (ofValue v) v := by
  unfold ofValue
  split
  · simp only [Conc]; exact ⟨_, rfl, concs_lits γ _⟩
  · exact conc_lit γ _
def OpRel (γ : Gam) (t : Tmps) (ρ : Operand → Value) : Prop := ∀ x v, opnd t x = some v → Conc γ v (ρ x)
theorem ConcT.opnd {γ : Gam} {n : Nat} {t : Tmps} {a : Act} (h : ConcT γ n t a) : OpRel γ t a.eval := by
  intro x v hv
  cases x with
  | tmp i =>
    obtain ⟨y, hy, hc⟩ := h.get i v hv
    simp only [Act.eval, Array.getD_eq_getD_getElem?, hy, Option.getD_some]
    exact hc
  | const c => simp only [Go.Proofs.YtldjgpnbkbmgoaaGreatDoor.Ev.opnd, Option.some.injEq] at hv; subst hv; exact conc_ofValue γ c
  | global g => simp [Go.Proofs.YtldjgpnbkbmgoaaGreatDoor.Ev.opnd] at hv
  | func f => simp only [Go.Proofs.YtldjgpnbkbmgoaaGreatDoor.Ev.opnd, Option.some.injEq] at hv; subst hv; exact conc_lit γ _
theorem concs_length {γ : Gam} : ∀ {l : List AV} {xs : List Value}, Concs γ l xs → xs.length = l.length
  | [], _, h => by simp only [Concs] at h; simp [h]
  | v :: l, _, h => by
    simp only [Concs] at h
    obtain ⟨x, xs, rfl, _, h2⟩ := h
    simp [concs_length h2]
theorem concs_get {γ : Gam} : ∀ {l : List AV} {xs : List Value}, Concs γ l xs → ∀ (i : Nat) (v : AV), l[i]? = some v → ∃ x, xs[i]? = some x ∧ Conc γ v x
  | [], _, _, i, v, hv => by simp at hv
  | u :: l, _, h, i, v, hv => by
    simp only [Concs] at h
    obtain ⟨x, xs, rfl, h1, h2⟩ := h
    cases i with
    | zero => simp only [List.getElem?_cons_zero, Option.some.injEq] at hv; subst hv; exact ⟨x, rfl, h1⟩
    | succ i => simpa using concs_get h2 i v (by simpa using hv)
theorem concs_of {γ : Gam} : ∀ {l : List AV} {xs : List Value}, xs.length = l.length → (∀ (i : Nat) (v : AV), l[i]? = some v → ∃ x, xs[i]? = some x ∧ Conc γ v x) → Concs γ l xs
  | [], [], _, _ => by simp [Concs]
  | [], _ :: _, h, _ => by simp at h
  | _ :: _, [], h, _ => by simp at h
  | u :: l, x :: xs, h, hg => by
    simp only [Concs]
    refine ⟨x, xs, rfl, ?_, concs_of (by simpa using h) fun i v hv => by simpa using hg (i + 1) v (by simpa using hv)⟩
    obtain ⟨y, hy, hc⟩ := hg 0 u rfl
    simp only [List.getElem?_cons_zero, Option.some.injEq] at hy
    subst hy; exact hc
theorem concs_append {γ : Gam} {l m : List AV} {xs ys : List Value} (h : Concs γ l xs) (h' : Concs γ m ys) : Concs γ (l ++ m) (xs ++ ys) := by
  induction l generalizing xs with
  | nil => simp only [Concs] at h; subst h; simpa using h'
  | cons v l ih =>
    simp only [Concs] at h
    obtain ⟨x, xs, rfl, h1, h2⟩ := h
    simp only [List.cons_append, Concs]
    exact ⟨x, xs ++ ys, rfl, h1, ih h2⟩
theorem concs_drop {γ : Gam} {l : List AV} {xs : List Value} (h : Concs γ l xs) (n : Nat) : Concs γ (l.drop n) (xs.drop n) :=
  concs_of (by simp [concs_length h]) fun i v hv => by
    rw [List.getElem?_drop] at hv ⊢
    exact concs_get h _ v hv
theorem concs_take {γ : Gam} {l : List AV} {xs : List Value} (h : Concs γ l xs) (n : Nat) : Concs γ (l.take n) (xs.take n) :=
  concs_of (by simp [concs_length h]) fun i v hv => by
    rw [List.getElem?_take] at hv ⊢
    split at hv
    · rw [if_pos ‹_›]; exact concs_get h _ v hv
    · simp at hv
theorem concs_setFrom {γ : Gam} {l vs : List AV} {xs ys : List Value} (h : Concs γ l xs) (h' : Concs γ vs ys) (off : Nat) : Concs γ (setFrom l off vs) (setFrom xs off ys) := by
  unfold setFrom
  rw [← concs_length h']
  exact concs_append (concs_append (concs_take h _) h') (concs_drop h _)
theorem concs_allSome {γ : Gam} {t : Tmps} {ρ : Operand → Value} (h : OpRel γ t ρ) : ∀ {l : List Operand} {vs : List AV}, argsA t l = some vs → Concs γ vs (l.map ρ)
  | [], vs, hv => by simp only [argsA, List.map_nil, allSome, Option.some.injEq] at hv; subst hv; simp [Concs]
  | x :: l, vs, hv => by
    simp only [argsA, List.map_cons] at hv
    cases hx : Go.Proofs.YtldjgpnbkbmgoaaGreatDoor.Ev.opnd t x with
    | none => rw [hx] at hv; simp [allSome] at hv
    | some v =>
      rw [hx] at hv
      simp only [allSome] at hv
      cases hr : allSome (l.map (Go.Proofs.YtldjgpnbkbmgoaaGreatDoor.Ev.opnd t)) with
      | none => rw [hr] at hv; simp at hv
      | some vs' =>
        rw [hr] at hv
        simp only [Option.some.injEq] at hv
        subst hv
        simp only [Concs, List.map_cons]
        exact ⟨_, _, rfl, h x v hx, concs_allSome h hr⟩
theorem conc_cells {γ : Gam} {v : AV} {x : Value} (h : Conc γ v x) : Concs γ v.cells x.cells.toList := by
  cases v with
  | lit u =>
    rw [conc_lit_iff] at h
    subst h
    cases x <;> simp only [AV.cells, Value.cells] <;> first | exact concs_lits γ _ | (simp only [Concs]; exact ⟨_, _, rfl, conc_lit γ _, rfl⟩)
  | agg l =>
    simp only [Conc] at h
    obtain ⟨a, rfl, h⟩ := h
    simpa only [AV.cells, Value.cells] using h
  | ptr o off => have h' := h; simp only [Conc] at h'; obtain ⟨a, rfl, _⟩ := h'; simp only [AV.cells, Value.cells, Concs]; exact ⟨_, _, rfl, h, rfl⟩
  | slice o off len cap => have h' := h; simp only [Conc] at h'; obtain ⟨a, c, rfl, _⟩ := h'; simp only [AV.cells, Value.cells, Concs]; exact ⟨_, _, rfl, h, rfl⟩
  | map o => have h' := h; simp only [Conc] at h'; obtain ⟨a, rfl, _⟩ := h'; simp only [AV.cells, Value.cells, Concs]; exact ⟨_, _, rfl, h, rfl⟩
  | func f a b => have h' := h; simp only [Conc] at h'; obtain ⟨a, b, rfl, _⟩ := h'; simp only [AV.cells, Value.cells, Concs]; exact ⟨_, _, rfl, h, rfl⟩
  | iface ty u => have h' := h; simp only [Conc] at h'; obtain ⟨a, rfl, _⟩ := h'; simp only [AV.cells, Value.cells, Concs]; exact ⟨_, _, rfl, h, rfl⟩
  | tuple l => have h' := h; simp only [Conc] at h'; obtain ⟨a, rfl, _⟩ := h'; simp only [AV.cells, Value.cells, Concs]; exact ⟨_, _, rfl, h, rfl⟩
theorem conc_one {γ : Gam} {v : AV} {x : Value} (h : Conc γ v x) (ho : v.one = true) : x.oneCell' = true := by
  cases v with
  | lit u => rw [conc_lit_iff] at h; subst h; cases x <;> simp_all [AV.one, Value.oneCell']
  | agg l => simp [AV.one] at ho
  | tuple l => simp [AV.one] at ho
  | ptr o off => simp only [Conc] at h; obtain ⟨a, rfl, _⟩ := h; rfl
  | slice o off len cap => simp only [Conc] at h; obtain ⟨a, c, rfl, _⟩ := h; rfl
  | map o => simp only [Conc] at h; obtain ⟨a, rfl, _⟩ := h; rfl
  | func f a b => simp only [Conc] at h; obtain ⟨a, b, rfl, _⟩ := h; rfl
  | iface ty u => simp only [Conc] at h; obtain ⟨a, rfl, _⟩ := h; rfl
mutual
theorem flat_conc {γ : Gam} : ∀ (v : AV) (x y : Value), v.flat = some x → Conc γ v y → y = x
  | .lit v, x, y, h, hc => by
    simp only [AV.flat, Option.some.injEq] at h
    rw [conc_lit_iff] at hc
    rw [hc, h]
  | .agg l, x, y, h, hc => by
    simp only [AV.flat] at h
    split at h
    · rename_i xs hx
      simp only [Option.some.injEq] at h
      simp only [Conc] at hc
      obtain ⟨a, rfl, ha⟩ := hc
      have := flats_conc l xs _ hx ha
      subst h
      rw [← this]
    · cases h
  | .tuple l, x, y, h, hc => by
    simp only [AV.flat] at h
    split at h
    · rename_i xs hx
      simp only [Option.some.injEq] at h
      simp only [Conc] at hc
      obtain ⟨a, rfl, ha⟩ := hc
      have := flats_conc l xs _ hx ha
      subst h
      rw [← this]
    · cases h
  | .iface t v, x, y, h, hc => by
    simp only [AV.flat] at h
    split at h
    · rename_i z hz
      simp only [Option.some.injEq] at h
      simp only [Conc] at hc
      obtain ⟨a, rfl, ha⟩ := hc
      rw [flat_conc v z a hz ha, h]
    · cases h
  | .ptr .., _, _, h, _ | .slice .., _, _, h, _ | .map .., _, _, h, _ | .func .., _, _, h, _ => by simp [AV.flat] at h
theorem flats_conc {γ : Gam} : ∀ (l : List AV) (xs ys : List Value), AV.flats l = some xs → Concs γ l ys → ys = xs
  | [], xs, ys, h, hc => by
    simp only [AV.flats, Option.some.injEq] at h
    simp only [Concs] at hc
    rw [hc, h]
  | v :: l, xs, ys, h, hc => by
    simp only [AV.flats] at h
    split at h
    · rename_i x zs h1 h2
      simp only [Option.some.injEq] at h
      simp only [Concs] at hc
      obtain ⟨y, ys', rfl, c1, c2⟩ := hc
      rw [flat_conc v x y h1 c1, flats_conc l zs ys' h2 c2, h]
    · cases h
end
mutual
theorem conc_flat {γ : Gam} : ∀ (v : AV) (x : Value), v.flat = some x → Conc γ v x
  | .lit v, x, h => by
    simp only [AV.flat, Option.some.injEq] at h
    rw [conc_lit_iff, h]
  | .agg l, x, h => by
    simp only [AV.flat] at h
    split at h
    · rename_i xs hx
      simp only [Option.some.injEq] at h
      subst h
      simp only [Conc]
      exact ⟨_, rfl, concs_flat l xs hx⟩
    · cases h
  | .tuple l, x, h => by
    simp only [AV.flat] at h
    split at h
    · rename_i xs hx
      simp only [Option.some.injEq] at h
      subst h
      simp only [Conc]
      exact ⟨_, rfl, concs_flat l xs hx⟩
    · cases h
  | .iface t v, x, h => by
    simp only [AV.flat] at h
    split at h
    · rename_i z hz
      simp only [Option.some.injEq] at h
      subst h
      simp only [Conc]
      exact ⟨z, rfl, conc_flat v z hz⟩
    · cases h
  | .ptr .., _, h | .slice .., _, h | .map .., _, h | .func .., _, h => by simp [AV.flat] at h
theorem concs_flat {γ : Gam} : ∀ (l : List AV) (xs : List Value), AV.flats l = some xs → Concs γ l xs
  | [], xs, h => by
    simp only [AV.flats, Option.some.injEq] at h
    subst h
    simp [Concs]
  | v :: l, xs, h => by
    simp only [AV.flats] at h
    split at h
    · rename_i x zs h1 h2
      simp only [Option.some.injEq] at h
      subst h
      simp only [Concs]
      exact ⟨x, zs, rfl, conc_flat v x h1, concs_flat l zs h2⟩
    · cases h
end
end Go.Proofs.YtldjgpnbkbmgoaaGreatDoor.Ev
namespace Go.Proofs.YtldjgpnbkbmgoaaGreatDoor.Ev
theorem addr_add (b o j : Nat) : (⟨b, o, none⟩ : Addr).add j = ⟨b, o + j, none⟩ := by
  unfold Addr.add
  by_cases hj : j = 0 <;> simp [hj]
section
variable {P : Program} {E : Env} (hE : EnvOk P E) {γ : Gam} {σ : AS} {w : World}
include hE
theorem part_ok {t : TypeId} {cs : List AV} {xs : Array Value} {off : Nat} {v : AV} (h : partOf E t cs off = some v) (hc : Concs γ cs xs.toList) :
    ∃ x, (part t xs off).run P w = .ok x w ∧ Conc γ v x := by
  unfold partOf at h
  cases hr : E.ty t with
  | none => rw [hr] at h; simp at h
  | some r =>
    rw [hr] at h
    simp only [] at h
    unfold part
    simp only [Sem.run_bind, run_agg hE hr, Result.andThen_ok]
    cases ha : isAggD r.und with
    | true =>
      rw [ha] at h
      simp only [] at h
      split at h
      · rename_i hle
        have hle := Nat.le_of_ble_eq_true hle
        simp only [Option.some.injEq] at h
        subst h
        simp only [if_true, Sem.run_bind, run_size hE hr, Result.andThen_ok, Sem.run_pure]
        refine ⟨_, rfl, ?_⟩
        simp only [Conc]
        refine ⟨_, rfl, ?_⟩
        have := concs_take (concs_drop hc off) r.info.size
        rw [Array.toList_extract, List.extract_eq_take_drop]
        rwa [Nat.add_sub_cancel_left]
      · simp at h
    | false =>
      rw [ha] at h
      simp only [] at h
      obtain ⟨x, hx, hcx⟩ := concs_get hc off v h
      have hx' : xs[off]? = some x := by simpa using hx
      simp only [Bool.false_eq_true, if_false, hx', Sem.run_pure]
      exact ⟨x, rfl, hcx⟩
theorem load_ok (hR : Rel γ σ w) {t : TypeId} {o off : Nat} {a : Addr} {v : AV} (h : loadAt E σ t o off = some v) (ha : atP γ o off a) :
    ∃ x, (loadVar t a).run P w = .ok x w ∧ Conc γ v x := by
  unfold loadAt at h
  split at h
  · rename_i l elem hg
    obtain ⟨p, hp, hob⟩ := hR.find hg (by simp) ha.ne
    obtain rfl := ha.at hp
    obtain ⟨c, hb, hs, hl, hcs⟩ := hob
    have hcell : ∀ i u, l[i]? = some u → ∃ x, w.cell? ⟨p.block, p.base + i, none⟩ = some x ∧ Conc γ u x := by
      intro i u hu
      obtain ⟨x, hx, hcx⟩ := hcs i u hu
      exact ⟨x, by simp [World.cell?, hb, hx], hcx⟩
    unfold partOf at h
    cases hr : E.ty t with
    | none => rw [hr] at h; simp at h
    | some r =>
      rw [hr] at h
      simp only [] at h
      unfold loadVar
      simp only [Sem.run_bind, run_agg hE hr, Result.andThen_ok]
      cases hag : isAggD r.und with
      | true =>
        rw [hag] at h
        simp only [] at h
        split at h
        · rename_i hle
          have hle := Nat.le_of_ble_eq_true hle
          simp only [Option.some.injEq] at h
          subst h
          have hlen : ((c.toList.drop (p.base + off)).take r.info.size).length = r.info.size := by
            simp; omega
          have hrun := run_loadCells_list (P := P) w ⟨p.block, p.base + off, none⟩ ((c.toList.drop (p.base + off)).take r.info.size) (by
            intro j u hu
            rw [addr_add]
            have hj : j < r.info.size := by
              have := (List.getElem?_eq_some_iff.1 hu).1
              rw [hlen] at this; exact this
            rw [List.getElem?_take, if_pos hj, List.getElem?_drop] at hu
            simp only [World.cell?, hb, Option.isSome_none, Bool.false_eq_true, if_false]
            simpa using hu)
          rw [hlen] at hrun
          simp only [if_true, Sem.run_bind, run_size hE hr, Result.andThen_ok, hrun, Sem.run_pure]
          refine ⟨_, rfl, ?_⟩
          simp only [Conc]
          refine ⟨_, rfl, ?_⟩
          simp only []
          refine concs_of (by rw [hlen]; simp; omega) fun i u hu => ?_
          rw [List.getElem?_take] at hu
          split at hu
          · rename_i hi
            rw [List.getElem?_drop] at hu
            obtain ⟨x, hx, hcx⟩ := hcs _ u hu
            refine ⟨x, ?_, hcx⟩
            rw [List.getElem?_take, if_pos hi, List.getElem?_drop, Nat.add_assoc]
            simpa using hx
          · simp at hu
        · simp at h
      | false =>
        rw [hag] at h
        simp only [] at h
        obtain ⟨x, hx, hcx⟩ := hcell off v h
        simp only [Bool.false_eq_true, if_false, run_load, hx]
        exact ⟨x, rfl, hcx⟩
  · simp at h
end
end Go.Proofs.YtldjgpnbkbmgoaaGreatDoor.Ev

namespace Go.Proofs.YtldjgpnbkbmgoaaGreatDoor.Ev
theorem semVal_some {s : Sem Value} {v : AV} (h : semVal s = some v) : ∃ x, s = .pure x ∧ v = .lit x := by
  unfold semVal at h
  split at h
  · simp only [Option.some.injEq] at h; exact ⟨_, rfl, h.symm⟩
  · simp at h
theorem natOf_some {γ : Gam} {v : AV} {n : Nat} {x : Value} (h : natOf v = some n) (hc : Conc γ v x) : ∃ k, x = .int k n := by
  unfold natOf at h
  split at h
  · rename_i k m
    simp only [Option.some.injEq] at h
    subst h
    rw [conc_lit_iff] at hc
    exact ⟨k, hc⟩
  · simp at h
section
variable {P : Program} {E : Env} (hE : EnvOk P E) {γ : Gam} {σ : AS} {w : World}
include hE
omit hE in
theorem flatEq_lits : ∀ {l m : List AV} {b : Bool}, flatEq l m = some b → (∃ xs : List Value, l = xs.map .lit) ∧ ∃ ys : List Value, m = ys.map .lit
  | [], [], _, _ => ⟨⟨[], rfl⟩, ⟨[], rfl⟩⟩
  | [], _ :: _, _, h => by simp [flatEq] at h
  | .lit a :: l, [], _, h => by simp [flatEq] at h
  | .lit a :: l, .lit b :: m, c, h => by
    simp only [flatEq] at h
    split at h
    · rename_i x y hx hy
      obtain ⟨⟨xs, e1⟩, ys, e2⟩ := flatEq_lits hy
      exact ⟨⟨a :: xs, by simp [e1]⟩, ⟨b :: ys, by simp [e2]⟩⟩
    · cases h
  | .lit a :: l, .ptr .. :: m, _, h => by simp [flatEq] at h
  | .lit a :: l, .slice .. :: m, _, h => by simp [flatEq] at h
  | .lit a :: l, .map .. :: m, _, h => by simp [flatEq] at h
  | .lit a :: l, .func .. :: m, _, h => by simp [flatEq] at h
  | .lit a :: l, .iface .. :: m, _, h => by simp [flatEq] at h
  | .lit a :: l, .agg .. :: m, _, h => by simp [flatEq] at h
  | .lit a :: l, .tuple .. :: m, _, h => by simp [flatEq] at h
  | .ptr .. :: l, _, _, h => by simp [flatEq] at h
  | .slice .. :: l, _, _, h => by simp [flatEq] at h
  | .map .. :: l, _, _, h => by simp [flatEq] at h
  | .func .. :: l, _, _, h => by simp [flatEq] at h
  | .iface .. :: l, _, _, h => by simp [flatEq] at h
  | .agg .. :: l, _, _, h => by simp [flatEq] at h
  | .tuple .. :: l, _, _, h => by simp [flatEq] at h
omit hE in
theorem concs_lits_eq {γ : Gam} : ∀ {xs ys : List Value}, Concs γ (xs.map .lit) ys → ys = xs
  | [], _, h => by simpa [Concs] using h
  | x :: xs, _, h => by
    simp only [List.map_cons, Concs] at h
    obtain ⟨y, ys, rfl, h1, h2⟩ := h
    rw [conc_lit_iff] at h1
    rw [h1, concs_lits_eq h2]
theorem flat_ok {t : TypeId} {r : TyRow} {n : Nat} (hr : E.ty t = some r) (hf : r.flat = some n) {a b : List AV} {c : Bool} (ha : a.length = n) (hb : b.length = n) (hk : fits r.kinds a = true)
    (h : flatEq a b = some c) {x y : Array Value} (hx : Concs γ a x.toList) (hy : Concs γ b y.toList) :
    (Op.equalIn Op.maxDepth t (.agg x) (.agg y)).run P w = .ok c w := by
  obtain ⟨⟨xs, rfl⟩, ys, rfl⟩ := flatEq_lits h
  have e1 := concs_lits_eq hx
  have e2 := concs_lits_eq hy
  have := hE.eq t r n hr hf xs ys c w (by simpa using ha) (by simpa using hb) hk h
  rw [← e1, ← e2] at this
  simpa using this
theorem eqOf_ok {t : TypeId} {a b : AV} {c : Bool} (h : eqOf E t a b = some c) {x y : Value} (hx : Conc γ a x) (hy : Conc γ b y) :
    (Op.equal t x y).run P w = .ok c w := by
  unfold eqOf at h
  cases hr : E.ty t with
  | none => rw [hr] at h; cases h
  | some r =>
    rw [hr] at h
    simp only [] at h
    unfold Op.equal
    have hfl : ∀ n, r.flat = some n → ∀ {a b : List AV} {c : Bool}, a.length = n → b.length = n → fits r.kinds a = true → flatEq a b = some c → ∀ {x y : Array Value}, Concs γ a x.toList → Concs γ b y.toList →
        (Op.equalIn Op.maxDepth t (.agg x) (.agg y)).run P w = .ok c w := fun n hf _ _ _ ha hb hk h _ _ hx hy => flat_ok hE hr hf ha hb hk h hx hy
    have hmax : Op.maxDepth = 9999 + 1 := rfl
    rw [hmax] at hfl ⊢
    generalize 9999 = d at hfl ⊢
    split at h
    case h_13 => cases h
    case h_12 =>
      simp only [Conc] at hx hy
      obtain ⟨x, rfl, hx⟩ := hx
      obtain ⟨y, rfl, hy⟩ := hy
      split at h
      · rename_i n hf
        split at h
        · rename_i hn
          rw [Bool.and_eq_true, Bool.and_eq_true] at hn
          exact hfl n hf (Nat.eq_of_beq_eq_true hn.1.1) (Nat.eq_of_beq_eq_true hn.1.2) hn.2 h hx hy
        · cases h
      · cases h
    all_goals
      rename_i hd
      simp only [Option.some.injEq] at h
      subst h
      simp only [Conc] at hx hy
      first | subst hx | obtain ⟨_, rfl, _⟩ := hx | obtain ⟨_, _, rfl, _⟩ := hx
      first | subst hy | obtain ⟨_, rfl, _⟩ := hy | obtain ⟨_, _, rfl, _⟩ := hy
      simp only [Op.equalIn, Sem.run_bind, run_und hE hr w, Result.andThen_ok, hd]
      rfl
theorem guard_ok {op : BinOp} {t : TypeId} {ox oy : Operand} {a b : AV} {c : Bool} (h : eqOf E t a b = some c) {x y : Value} (hx : Conc γ a x) (hy : Conc γ b y) :
    (eqGuard op t ox oy x y).run P w = .ok () w := by
  unfold eqOf at h
  cases hr : E.ty t with
  | none => rw [hr] at h; cases h
  | some r =>
    rw [hr] at h
    simp only [] at h
    unfold eqGuard
    split at h
    case h_13 => cases h
    case h_12 =>
      simp only [Conc] at hx hy
      obtain ⟨x, rfl, hx⟩ := hx
      obtain ⟨y, rfl, hy⟩ := hy
      split at h
      · rename_i n hf
        have hg := hE.guard t r n hr hf
        split <;> simp [hg]
      · cases h
    all_goals
      simp only [Conc] at hx hy
      first | subst hx | obtain ⟨_, rfl, _⟩ := hx | obtain ⟨_, _, rfl, _⟩ := hx
      first | subst hy | obtain ⟨_, rfl, _⟩ := hy | obtain ⟨_, _, rfl, _⟩ := hy
      split <;> rfl
theorem binOp_eql {t : TypeId} {a b : AV} {c : Bool} (h : eqOf E t a b = some c) {x y : Value} (hx : Conc γ a x) (hy : Conc γ b y) :
    (binOp .eql t x y).run P w = .ok (.bool c) w ∧ (binOp .neq t x y).run P w = .ok (.bool (!c)) w := by
  have he := eqOf_ok hE (w := w) h hx hy
  unfold eqOf at h
  cases hr : E.ty t with
  | none => rw [hr] at h; cases h
  | some r =>
    rw [hr] at h
    simp only [] at h
    split at h
    case h_13 => cases h
    all_goals
      simp only [Conc] at hx hy
      first | subst hx | obtain ⟨_, rfl, _⟩ := hx | obtain ⟨_, _, rfl, _⟩ := hx
      first | subst hy | obtain ⟨_, rfl, _⟩ := hy | obtain ⟨_, _, rfl, _⟩ := hy
      simp only [binOp, Sem.run_bind, he, Result.andThen_ok, Sem.run_pure, and_self]
theorem binA_ok {op : BinOp} {t : TypeId} {ox oy : Operand} {a b v : AV} (h : binA E op t a b = some v) {x y : Value} (hx : Conc γ a x) (hy : Conc γ b y) :
    ∃ u, (do eqGuard op t ox oy x y; binOp op t x y : Sem Value).run P w = .ok u w ∧ Conc γ v u := by
  unfold binA at h
  split at h
  · rename_i k1 n1 k2 n2
    rw [conc_lit_iff] at hx hy; subst hx hy
    obtain ⟨u, hu, rfl⟩ := semVal_some h
    refine ⟨u, ?_, conc_lit γ u⟩
    have : (eqGuard op t ox oy (.int k1 n1) (.int k2 n2)) = pure () := by unfold eqGuard; split <;> rfl
    rw [this, hu]
    rfl
  · rename_i s1 s2
    rw [conc_lit_iff] at hx hy; subst hx hy
    obtain ⟨u, hu, rfl⟩ := semVal_some h
    refine ⟨u, ?_, conc_lit γ u⟩
    have : (eqGuard op t ox oy (.string s1) (.string s2)) = pure () := by unfold eqGuard; split <;> rfl
    rw [this, hu]
    rfl
  · split at h
    · obtain ⟨c, hc, rfl⟩ := Option.map_eq_some_iff.1 h
      refine ⟨_, ?_, conc_lit γ _⟩
      simp only [Sem.run_bind, guard_ok hE hc hx hy, Result.andThen_ok, (binOp_eql hE hc hx hy).1]
    · obtain ⟨c, hc, rfl⟩ := Option.map_eq_some_iff.1 h
      refine ⟨_, ?_, conc_lit γ _⟩
      simp only [Sem.run_bind, guard_ok hE hc hx hy, Result.andThen_ok, (binOp_eql hE hc hx hy).2]
    · cases h
omit hE in
theorem unA_ok {op : UnOp} {a v : AV} (h : unA op a = some v) {x : Value} (hx : Conc γ a x) : ∃ u, (Op.unary op x).run P w = .ok u w ∧ Conc γ v u := by
  unfold unA at h
  split at h
  · rw [conc_lit_iff] at hx; subst hx
    obtain ⟨u, hu, rfl⟩ := semVal_some h
    exact ⟨u, by rw [hu]; rfl, conc_lit γ u⟩
  · cases h
def OptRel (γ : Gam) : Option AV → Option Value → Prop
  | none, none => True
  | some v, some x => Conc γ v x
  | _, _ => False
omit hE in
theorem bound_ok {v : AV} {x : Value} {n y : Nat} {code : BoundsCode} (hn : natOf v = some n) (hx : Conc γ v x) (hle : n ≤ y) : (Instr.sliceBound x y code).run P w = .ok n w := by
  obtain ⟨k, rfl⟩ := natOf_some hn hx
  unfold Instr.sliceBound
  have : (0 ≤ (n : Int) ∧ (n : Int) ≤ (y : Int)) := ⟨by omega, by omega⟩
  simp [asIntOf, this]
omit hE in
theorem natLe_ok {v : AV} {x : Value} {n top y : Nat} {code : BoundsCode} (hn : natLe v top = some n) (hx : Conc γ v x) (hle : top ≤ y) : (Instr.sliceBound x y code).run P w = .ok n w ∧ n ≤ top := by
  unfold natLe at hn
  split at hn
  · rename_i k hk
    split at hn
    · rename_i hb
      simp only [Option.some.injEq] at hn
      subst hn
      have hb := Nat.le_of_ble_eq_true hb
      exact ⟨bound_ok hk hx (Nat.le_trans hb hle), hb⟩
    · cases hn
  · cases hn
omit hE in
theorem bounds_ok {isSlice : Bool} {len c : Nat} {cap : Option Nat} {lo hi mx : Option AV} {l h : Nat} {m : Option Nat} (hb : boundsA len cap lo hi mx = some (l, h, m))
    (hc : cap = some c ∨ (cap = none ∧ len ≤ c)) (hle : len ≤ c) {lo' hi' mx' : Option Value} (h1 : OptRel γ lo lo') (h2 : OptRel γ hi hi') (h3 : OptRel γ mx mx') :
    ∃ mm, (Instr.sliceBounds isSlice len c lo' hi' mx').run P w = .ok (l, h, mm) w ∧ l ≤ h ∧ ((∃ k, m = some k ∧ mm = k) ∨ (m = none ∧ cap = none ∧ mm = c)) ∧ h ≤ mm ∧ mm ≤ c := by
  unfold boundsA at hb
  have hlc : topOf len cap ≤ c := by
    rcases hc with rfl | ⟨rfl, hle⟩
    · exact Nat.le_refl _
    · exact hle
  cases hm' : endA len cap mx with
  | none => rw [hm'] at hb; cases hb
  | some m' =>
    rw [hm'] at hb
    simp only [] at hb
    have hmx : ∃ mm, ((match mx' with
        | some v => Instr.sliceBound v c (if isSlice then .slice3Acap else .slice3Alen)
        | none => pure c : Sem Nat).run P w = .ok mm w) ∧ mm ≤ c ∧ ((∃ k, m' = some k ∧ mm = k) ∨ (m' = none ∧ cap = none ∧ mm = c)) ∧ (mx = none → mm = c) := by
      cases mx with
      | none =>
        cases mx' with
        | some _ => exact h3.elim
        | none =>
          simp only [endA, Option.some.injEq] at hm'
          subst hm'
          refine ⟨c, rfl, Nat.le_refl _, ?_, fun _ => rfl⟩
          rcases hc with e | ⟨e, _⟩
          · exact .inl ⟨c, e, rfl⟩
          · exact .inr ⟨e, e, rfl⟩
      | some v =>
        cases mx' with
        | none => exact h3.elim
        | some x =>
          simp only [endA] at hm'
          split at hm'
          · rename_i k hk
            simp only [Option.some.injEq] at hm'
            subst hm'
            have := natLe_ok (P := P) (w := w) (code := if isSlice then .slice3Acap else .slice3Alen) hk h3 hlc
            exact ⟨k, this.1, Nat.le_trans this.2 hlc, .inl ⟨k, rfl, rfl⟩, fun e => by cases e⟩
          · cases hm'
    obtain ⟨mm, hmr, hmc, hmm, hmn⟩ := hmx
    have htop : topOf len m' ≤ mm := by
      rcases hmm with ⟨k, rfl, rfl⟩ | ⟨rfl, hn, rfl⟩
      · exact Nat.le_refl _
      · rw [hn] at hlc; exact hlc
    cases hh' : highA len m' hi mx with
    | none => rw [hh'] at hb; cases hb
    | some h' =>
      rw [hh'] at hb
      simp only [] at hb
      have hhx : ((match hi', mx' with
          | some v, some _ => Instr.sliceBound v mm .slice3B
          | some v, none => Instr.sliceBound v mm (if isSlice then .sliceAcap else .sliceAlen)
          | none, none => pure len
          | none, some _ => stuck "Slice: max without high" : Sem Nat).run P w = .ok h' w) ∧ h' ≤ mm := by
        cases hi with
        | some v =>
          cases hi' with
          | none => exact h2.elim
          | some x =>
            simp only [highA] at hh'
            cases mx' with
            | none =>
              have := natLe_ok (P := P) (w := w) (code := if isSlice then .sliceAcap else .sliceAlen) hh' h2 htop
              exact ⟨this.1, Nat.le_trans this.2 htop⟩
            | some _ =>
              have := natLe_ok (P := P) (w := w) (code := .slice3B) hh' h2 htop
              exact ⟨this.1, Nat.le_trans this.2 htop⟩
        | none =>
          cases hi' with
          | some _ => exact h2.elim
          | none =>
            cases mx with
            | some _ => simp [highA] at hh'
            | none =>
              cases mx' with
              | some _ => exact h3.elim
              | none =>
                simp only [highA, Option.some.injEq] at hh'
                subst hh'
                exact ⟨rfl, by rw [hmn rfl]; exact hle⟩
      obtain ⟨hhr, hhm⟩ := hhx
      cases hl' : lowA h' lo with
      | none => rw [hl'] at hb; cases hb
      | some l' =>
        rw [hl'] at hb
        simp only [Option.some.injEq, Prod.mk.injEq] at hb
        obtain ⟨rfl, rfl, rfl⟩ := hb
        have hlx : ((match lo' with
            | some v => Instr.sliceBound v h' (if mx'.isSome then .slice3C else .sliceB)
            | none => pure 0 : Sem Nat).run P w = .ok l' w) ∧ l' ≤ h' := by
          cases lo with
          | some v =>
            cases lo' with
            | none => exact h1.elim
            | some x =>
              simp only [lowA] at hl'
              exact natLe_ok hl' h1 (Nat.le_refl _)
          | none =>
            cases lo' with
            | some _ => exact h1.elim
            | none =>
              simp only [lowA, Option.some.injEq] at hl'
              subst hl'
              exact ⟨rfl, Nat.zero_le _⟩
        refine ⟨mm, ?_, hlx.2, hmm, hhm, hmc⟩
        unfold Instr.sliceBounds
        clear hh' hm' hl'
        cases mx' <;> cases hi' <;> cases lo' <;> simp only [Sem.run_pure, Result.ok.injEq, and_true] at hmr hhr hlx <;>
          first
            | (simp only [Sem.run_bind, hmr, hhr, hlx.1, Result.andThen_ok, Sem.run_pure]; done)
            | (subst hmr; simp only [Sem.run_bind, hhr, hlx.1, Result.andThen_ok, Sem.run_pure]; done)
            | (subst hmr hhr; simp only [Sem.run_bind, hlx.1, Result.andThen_ok, Sem.run_pure]; done)
            | (simp only [Sem.run_bind, hmr, hhr, hlx.1, Result.andThen_ok, Sem.run_pure]; rfl)
            | trace_state
end
end Go.Proofs.YtldjgpnbkbmgoaaGreatDoor.Ev
namespace Go.Proofs.YtldjgpnbkbmgoaaGreatDoor.Ev
theorem run_mapM_list {P : Program} {w : World} {α β : Type} (f : α → Sem β) (g : α → β) : ∀ (l : List α), (∀ a ∈ l, (f a).run P w = .ok (g a) w) → (l.mapM f).run P w = .ok (l.map g) w
  | [], _ => by simp
  | a :: l, h => by
    simp only [List.mapM_cons, Sem.run_bind, h a (by simp), Result.andThen_ok, run_mapM_list f g l (fun b hb => h b (by simp [hb])), Sem.run_pure, List.map_cons]
theorem run_mapM_array {P : Program} {w : World} {α β : Type} (f : α → Sem β) (g : α → β) (l : Array α) (h : ∀ a ∈ l, (f a).run P w = .ok (g a) w) : (l.mapM f).run P w = .ok (l.map g) w := by
  rw [Array.mapM_eq_mapM_toList, Sem.run_map, run_mapM_list f g l.toList (fun a ha => h a (by simpa using ha)), Result.andThen_ok]
  congr 1
  apply Array.ext'
  simp
theorem setFrom_get {α : Type} (l vs : List α) (off i : Nat) (h : off + vs.length ≤ l.length) : (setFrom l off vs)[i]? = if off ≤ i ∧ i < off + vs.length then vs[i - off]? else l[i]? := by
  unfold setFrom
  by_cases h1 : i < off
  · rw [if_neg (by omega), List.append_assoc, List.getElem?_append_left (by simp; omega), List.getElem?_take, if_pos h1]
  · by_cases h2 : i < off + vs.length
    · rw [if_pos ⟨by omega, h2⟩, List.getElem?_append_left (by simp; omega), List.getElem?_append_right (by simp; omega)]
      simp only [List.length_take]
      rw [Nat.min_eq_left (by omega)]
    · rw [if_neg (by omega), List.getElem?_append_right (by simp; omega)]
      simp only [List.length_append, List.length_take]
      rw [Nat.min_eq_left (by omega), List.getElem?_drop]
      congr 1
      omega
theorem setFrom_length {α : Type} (l vs : List α) (off : Nat) (h : off + vs.length ≤ l.length) : (setFrom l off vs).length = l.length := by
  unfold setFrom
  simp
  omega
theorem foldl_set {α : Type} : ∀ (vs : List α) (k : Nat) (off : Nat) (cells : Array α), off + k + vs.length ≤ cells.size →
    ((vs.zipIdx k).foldl (fun cs (c, j) => cs.setIfInBounds (off + j) c) cells).toList = setFrom cells.toList (off + k) vs
  | [], k, off, cells, _ => by simp [setFrom]
  | v :: vs, k, off, cells, h => by
    simp only [List.zipIdx_cons, List.foldl_cons]
    have h' : off + k + (vs.length + 1) ≤ cells.size := by simpa using h
    rw [foldl_set vs (k + 1) off _ (by simp; omega)]
    simp only [Array.toList_setIfInBounds]
    have hsz : cells.toList.length = cells.size := by simp
    apply List.ext_getElem?
    intro i
    rw [setFrom_get _ _ _ _ (by rw [List.length_set, hsz]; omega), setFrom_get _ _ _ _ (by rw [hsz, List.length_cons]; omega)]
    rw [List.length_cons]
    by_cases h1 : off + (k + 1) ≤ i ∧ i < off + (k + 1) + vs.length
    · rw [if_pos h1, if_pos (by omega), show i - (off + k) = (i - (off + (k + 1))) + 1 by omega, List.getElem?_cons_succ]
    · rw [if_neg h1]
      by_cases h2 : i = off + k
      · subst h2
        rw [if_pos (by omega), List.getElem?_set_self (by rw [hsz]; omega), Nat.sub_self]
        rfl
      · rw [if_neg (by omega), List.getElem?_set_ne (by omega)]
theorem fill_ok {γ : Gam} (place : Nat → Option (Nat × Nat)) : ∀ (parts : List (Nat × AV)) (parts' : List (Nat × Value)) (cells : List AV) (cells' : Array Value) (out : List AV),
    parts'.length = parts.length → (∀ (i : Nat) (p : Nat × AV), parts[i]? = some p → ∃ x, parts'[i]? = some (p.1, x) ∧ Conc γ p.2 x) → Concs γ cells cells'.toList → fillA place cells parts = some out →
    ∃ out', Instr.fill place cells' parts' = some out' ∧ Concs γ out out'.toList
  | [], parts', cells, cells', out, hl, _, hc, h => by
    have : parts' = [] := List.eq_nil_of_length_eq_zero (by simpa using hl)
    subst this
    simp only [fillA, Option.some.injEq] at h
    subst h
    exact ⟨cells', rfl, hc⟩
  | (i, v) :: rest, parts', cells, cells', out, hl, hp, hc, h => by
    obtain ⟨x, hx, hcx⟩ := hp 0 (i, v) rfl
    cases parts' with
    | nil => simp at hl
    | cons q rest' =>
      simp only [List.getElem?_cons_zero, Option.some.injEq] at hx
      subst hx
      unfold fillA at h
      unfold Instr.fill
      cases hpl : place i with
      | none => rw [hpl] at h; cases h
      | some os =>
        obtain ⟨off, size⟩ := os
        rw [hpl] at h
        simp only [] at h ⊢
        have hvc := conc_cells hcx
        have hvl : x.cells.size = v.cells.length := by simpa using concs_length hvc
        have hcl : cells'.size = cells.length := by simpa using concs_length hc
        split at h
        · rename_i hb
          rw [Bool.and_eq_true] at hb
          have h1 := Nat.eq_of_beq_eq_true hb.1
          have h2 := Nat.le_of_ble_eq_true hb.2
          have hne : ¬ ((decide (x.cells.size ≠ size) || decide (off + x.cells.size > cells'.size)) = true) := by simp; omega
          rw [if_neg hne]
          refine fill_ok place rest rest' _ _ out (by simpa using hl) (fun j p hj => by simpa using hp (j + 1) p (by simpa using hj)) ?_ h
          have hf := foldl_set x.cells.toList 0 off cells' (by simp; omega)
          rw [← Array.foldl_toList, Array.toList_zipIdx]
          rw [hf]
          exact concs_setFrom hc hvc off
        · cases h
theorem rep_ok {α : Type} [Inhabited α] (z : Array α) (s : Nat) (hz : z.size = s) : ∀ n, ((Array.range (n * s)).map (z[· % z.size]!)).toList = rep n z.toList := by
  intro n
  have key : ∀ n, ∀ i, (rep n z.toList)[i]? = if i < n * s then z[i % s]? else none := by
    intro n
    induction n with
    | zero => intro i; simp [rep]
    | succ n ih =>
      intro i
      simp only [rep]
      by_cases h1 : i < s
      · rw [List.getElem?_append_left (by simp; omega), if_pos (by rw [Nat.succ_mul]; omega), Nat.mod_eq_of_lt h1]
        simp
      · rw [List.getElem?_append_right (by simp; omega), ih]
        have e : z.toList.length = s := by simpa using hz
        rw [e, Nat.succ_mul]
        by_cases h2 : i - s < n * s
        · rw [if_pos h2, if_pos (by omega)]
          rw [Nat.mod_eq_sub_mod (by omega : i ≥ s)]
        · rw [if_neg h2, if_neg (by omega)]
  apply List.ext_getElem?
  intro i
  rw [key]
  simp only [Array.toList_map, Array.toList_range, List.getElem?_map]
  by_cases h : i < n * s
  · rw [if_pos h, List.getElem?_range h]
    have hs : 0 < s := by
      rcases Nat.eq_zero_or_pos s with e | e
      · subst e; simp at h
      · exact e
    have hm : i % s < z.size := by rw [hz]; exact Nat.mod_lt _ hs
    simp only [Option.map_some, hz]
    rw [getElem!_pos z (i % s) hm, Array.getElem?_eq_getElem hm]
  · rw [if_neg h]
    simp [List.getElem?_eq_none (by simpa using h : (List.range (n * s)).length ≤ i)]
theorem concs_rep {γ : Gam} {l : List AV} {xs : List Value} (h : Concs γ l xs) : ∀ n, Concs γ (rep n l) (rep n xs)
  | 0 => by simp [rep, Concs]
  | n + 1 => concs_append h (concs_rep h n)
theorem entRel_length {γ : Gam} : ∀ {es : List (AV × AV × Nat)} {es' : List MapEntry}, EntRel γ es es' → es'.length = es.length
  | [], _, h => by simp only [EntRel] at h; simp [h]
  | (k, v, b) :: es, _, h => by
    simp only [EntRel] at h
    obtain ⟨k', v', rest, rfl, _, _, h⟩ := h
    simp [entRel_length h]
theorem entRel_get {γ : Gam} : ∀ {es : List (AV × AV × Nat)} {es' : List MapEntry}, EntRel γ es es' → ∀ (i : Nat) (e : AV × AV × Nat), es[i]? = some e → ∃ k v, es'[i]? = some ⟨k, v, e.2.2⟩ ∧ Conc γ e.1 k ∧ Conc γ e.2.1 v
  | [], _, _, i, e, he => by simp at he
  | (k, v, b) :: es, _, h, i, e, he => by
    simp only [EntRel] at h
    obtain ⟨k', v', rest, rfl, h1, h2, h⟩ := h
    cases i with
    | zero => simp only [List.getElem?_cons_zero, Option.some.injEq] at he; subst he; exact ⟨k', v', rfl, h1, h2⟩
    | succ i => simpa using entRel_get h i e (by simpa using he)
theorem entRel_mono {γ γ' : Gam} (hx : Ext γ γ') : ∀ {es : List (AV × AV × Nat)} {es' : List MapEntry}, EntRel γ es es' → EntRel γ' es es'
  | [], _, h => by simpa only [EntRel] using h
  | (k, v, b) :: es, _, h => by
    simp only [EntRel] at h ⊢
    obtain ⟨k', v', rest, rfl, h1, h2, h⟩ := h
    exact ⟨k', v', rest, rfl, h1.mono hx _ _, h2.mono hx _ _, entRel_mono hx h⟩
theorem entRel_append {γ : Gam} : ∀ {es fs : List (AV × AV × Nat)} {es' fs' : List MapEntry}, EntRel γ es es' → EntRel γ fs fs' → EntRel γ (es ++ fs) (es' ++ fs')
  | [], _, _, _, h, h' => by simp only [EntRel] at h; subst h; simpa using h'
  | (k, v, b) :: es, _, _, _, h, h' => by
    simp only [EntRel] at h
    obtain ⟨k', v', rest, rfl, h1, h2, h⟩ := h
    simp only [List.cons_append, EntRel]
    exact ⟨k', v', _, rfl, h1, h2, entRel_append h h'⟩
section
variable {P : Program} {E : Env} (hE : EnvOk P E) {γ : Gam} {σ : AS} {w : World}
include hE
theorem build_ok {ty : TypeId} {is : List Nat} {os : List Operand} {vs : List AV} {ρ : Operand → Value} {parts : Array (Nat × Operand)} {v : AV} {r : TyRow} {z : Value}
    (hr : E.ty ty = some r) (hz : r.info.zero = some z) (hp : Concs γ vs (parts.toList.map (fun p => ρ p.2)))
    (h : (match r.und with
        | .struct fs => match places E fs.toList with
          | some ps => (fillA (ps[·]?) (ofValue z).cells ((parts.toList.map (·.1)).zip vs)).map fun l => AV.agg l
          | none => none
        | .array _ elem => match E.ty elem with
          | some er => (fillA (fun i => some (i * er.info.size, er.info.size)) (ofValue z).cells ((parts.toList.map (·.1)).zip vs)).map fun l => AV.agg l
          | none => none
        | _ => none) = some v) :
    ∃ x, (Instr.build ty (parts.map fun (i, x) => (i, ρ x))).run P w = .ok x w ∧ Conc γ v x := by
  have hlen : vs.length = parts.toList.length := by have := concs_length hp; simpa using this.symm
  have hparts : ∀ (i : Nat) (p : Nat × AV), ((parts.toList.map (·.1)).zip vs)[i]? = some p → ∃ x, ((parts.map fun (i, x) => (i, ρ x)).toList)[i]? = some (p.1, x) ∧ Conc γ p.2 x := by
    intro i p hi
    rw [List.getElem?_zip_eq_some] at hi
    obtain ⟨h1, h2⟩ := hi
    obtain ⟨x, hx, hc⟩ := concs_get hp i p.2 h2
    refine ⟨x, ?_, hc⟩
    simp only [List.getElem?_map, Option.map_eq_some_iff, Array.toList_map] at h1 hx ⊢
    obtain ⟨q, hq, e⟩ := h1
    obtain ⟨q', hq', e'⟩ := hx
    rw [hq] at hq'
    cases hq'
    exact ⟨q, hq, by rw [← e, ← e']⟩
  have hl2 : (parts.map fun (i, x) => (i, ρ x)).toList.length = ((parts.toList.map (·.1)).zip vs).length := by simp [hlen]
  have hzc : Concs γ (ofValue z).cells z.cells.toList := conc_cells (conc_ofValue γ z)
  unfold Instr.build
  simp only [Sem.run_bind, run_zero hE hr w hz, Result.andThen_ok, run_und hE hr w]
  split at h
  · rename_i fs hd
    split at h
    · rename_i ps hps
      obtain ⟨l, hf, rfl⟩ := Option.map_eq_some_iff.1 h
      have hpl : ∀ (fl : List Field) (ps : List (Nat × Nat)), places E fl = some ps → (∀ f ∈ fl, ∀ w, (do pure (f.offset, ← Go.sizeOf f.type) : Sem (Nat × Nat)).run P w = .ok (f.offset, ((E.ty f.type).map (·.info.size)).getD 0) w) ∧ ps = fl.map fun f => (f.offset, ((E.ty f.type).map (·.info.size)).getD 0) := by
        intro fl
        induction fl with
        | nil => intro ps h; simp only [places, List.map_nil, allSome, Option.some.injEq] at h; subst h; simp
        | cons f fl ih =>
          intro ps h
          simp only [places, List.map_cons] at h
          cases hf : E.ty f.type with
          | none => rw [hf] at h; simp [allSome] at h
          | some fr =>
            rw [hf] at h
            simp only [Option.map_some, allSome] at h
            split at h
            · rename_i ps' hps'
              simp only [Option.some.injEq] at h
              subst h
              obtain ⟨i1, i2⟩ := ih ps' hps'
              refine ⟨?_, by simp [hf, i2]⟩
              intro g hg w
              rcases List.mem_cons.1 hg with rfl | hg
              · simp [run_size hE hf, hf]
              · exact i1 g hg w
            · cases h
      obtain ⟨p1, p2⟩ := hpl fs.toList ps hps
      obtain ⟨out', ho, hc⟩ := fill_ok (fun i : Nat => ps[i]?) _ _ _ _ _ hl2 hparts hzc hf
      have hm := run_mapM_array (P := P) (w := w) (fun f : Field => (do pure (f.offset, ← Go.sizeOf f.type) : Sem (Nat × Nat))) (fun f => (f.offset, ((E.ty f.type).map (·.info.size)).getD 0)) fs (fun f hf => p1 f (by simpa using hf) w)
      have hfun : (fun (i : Nat) => (fs.map fun f => (f.offset, ((E.ty f.type).map (·.info.size)).getD 0))[i]?) = fun (i : Nat) => ps[i]? := by
        funext i
        rw [p2]
        simp
      rw [hd]
      refine ⟨.agg out', ?_, by simp only [Conc]; exact ⟨_, rfl, hc⟩⟩
      simp only []
      rw [Sem.run_bind, hm, Result.andThen_ok, hfun, ho]
      rfl
    · cases h
  · rename_i n elem hd
    split at h
    · rename_i er her
      obtain ⟨l, hf, rfl⟩ := Option.map_eq_some_iff.1 h
      obtain ⟨out', ho, hc⟩ := fill_ok _ _ _ _ _ _ hl2 hparts hzc hf
      rw [hd]
      simp only [Sem.run_bind, run_size hE her w, Result.andThen_ok, ho, Sem.run_pure]
      exact ⟨_, rfl, by simp only [Conc]; exact ⟨_, rfl, hc⟩⟩
    · cases h
  · cases h
end
end Go.Proofs.YtldjgpnbkbmgoaaGreatDoor.Ev

namespace Go.Proofs.YtldjgpnbkbmgoaaGreatDoor.Ev
def FindRel (γ : Gam) : Option (Nat × AV) → Option (Nat × Value) → Prop
  | none, none => True
  | some (j, v), some (j', v') => j = j' ∧ Conc γ v v'
  | _, _ => False
theorem fits_lits : ∀ {ks : List Nat} {l : List AV}, fits ks l = true → ∃ xs : List Value, l = xs.map .lit
  | [], [], _ => ⟨[], rfl⟩
  | [], _ :: _, h => by simp [fits] at h
  | _ :: _, [], h => by simp [fits] at h
  | k :: ks, v :: l, h => by
    cases v with
    | lit u =>
      simp only [fits, Bool.and_eq_true] at h
      obtain ⟨xs, rfl⟩ := fits_lits h.2
      exact ⟨u :: xs, rfl⟩
    | _ => simp [fits] at h
section
variable {P : Program} {E : Env} (hE : EnvOk P E) {γ : Gam} {σ : AS} {w : World}
include hE
theorem checkKey_ok {t : TypeId} {k : AV} {d : TypeDesc} {x : Value} {b : Bool} (h : keyTy E t k = some d) (hx : Conc γ k x) : (Instr.checkKey b 10000 t x).run P w = .ok () w := by
  unfold keyTy at h
  cases hr : E.ty t with
  | none => rw [hr] at h; cases h
  | some r =>
    rw [hr] at h
    simp only [] at h
    have hk := fun n k e (h1 : r.flat = some n) (h2 : r.und = .array k e) xs => hE.key t r n k e hr h1 h2 xs b w
    have hmax : (10000 : Nat) = 9999 + 1 := rfl
    rw [hmax] at hk ⊢
    generalize 9999 = m at hk ⊢
    split at h
    · rename_i hd
      rw [conc_lit_iff] at hx; subst hx
      simp only [Instr.checkKey, Sem.run_bind, run_und hE hr w, Result.andThen_ok, hd]
      rfl
    · rename_i hd
      rw [conc_lit_iff] at hx; subst hx
      simp only [Instr.checkKey, Sem.run_bind, run_und hE hr w, Result.andThen_ok, hd]
      rfl
    · rename_i hd
      rw [conc_lit_iff] at hx; subst hx
      simp only [Instr.checkKey, Sem.run_bind, run_und hE hr w, Result.andThen_ok, hd]
      rfl
    · rename_i n e l hd
      split at h
      · rename_i q hq
        split at h
        · rename_i hb
          rw [Bool.and_eq_true] at hb
          simp only [Conc] at hx
          obtain ⟨a, rfl, ha⟩ := hx
          have : ∃ xs : List Value, l = xs.map .lit := fits_lits hb.2
          obtain ⟨xs, rfl⟩ := this
          have e1 := concs_lits_eq ha
          have := hk q n e hq hd xs (by have := Nat.eq_of_beq_eq_true hb.1; simpa using this)
          rw [← e1] at this
          simpa using this
        · cases h
      · cases h
    · cases h
omit hE in
theorem findNow_ok {d : TypeDesc} {k : AV} {x : Value} (hx : Conc γ k x) (hn : ∀ n e, d ≠ .array n e) : ∀ (es : List (AV × AV × Nat)) (es' : List MapEntry) (i : Nat) (r : Option (Nat × AV)), EntRel γ es es' → findA d k es i = some r →
    ∃ r', Instr.findNow d x es' i = some r' ∧ FindRel γ r r'
  | [], es', i, r, he, h => by
    simp only [EntRel] at he
    subst he
    simp only [findA, Option.some.injEq] at h
    subst h
    exact ⟨none, rfl, trivial⟩
  | (k', v, b) :: es, es', i, r, he, h => by
    simp only [EntRel] at he
    obtain ⟨kk, vv, rest, rfl, h1, h2, he⟩ := he
    simp only [findA] at h
    cases hk : keyEq d k k' with
    | none => rw [hk] at h; cases h
    | some c =>
      rw [hk] at h
      have hs : Instr.sameNow d x kk = some c := by
        unfold keyEq at hk
        split at hk
        · rw [conc_lit_iff] at hx h1; subst hx h1; exact hk
        · rw [conc_lit_iff] at hx h1; subst hx h1; exact hk
        · rw [conc_lit_iff] at hx h1; subst hx h1; exact hk
        · exact absurd rfl (hn _ _)
        · cases hk
      simp only [Instr.findNow, hs]
      cases c with
      | true =>
        simp only [Option.some.injEq] at h
        subst h
        exact ⟨some (i, vv), rfl, rfl, h2⟩
      | false => exact findNow_ok hx hn es rest (i + 1) r he h
theorem findAsking_ok {t : TypeId} {r : TyRow} {n : Nat} {e : TypeId} (hr : E.ty t = some r) (hd : r.und = .array n e) (m : Nat) (hm : r.flat = some m) {l : List AV} {x : Array Value} (hx : Concs γ l x.toList) (hl : l.length = m) (hkd : fits r.kinds l = true)
    (hel : ∀ (l' : List AV) c, flatEq l l' = some c → l'.length = m) : ∀ (es : List (AV × AV × Nat)) (es' : List MapEntry) (i : Nat) (q : Option (Nat × AV)), EntRel γ es es' → findA (.array n e) (.agg l) es i = some q →
    ∃ r', (Instr.findAsking t (.agg x) es' i).run P w = .ok r' w ∧ FindRel γ q r'
  | [], es', i, q, he, h => by
    simp only [EntRel] at he
    subst he
    simp only [findA, Option.some.injEq] at h
    subst h
    exact ⟨none, rfl, trivial⟩
  | (k', v, b) :: es, es', i, q, he, h => by
    simp only [EntRel] at he
    obtain ⟨kk, vv, rest, rfl, h1, h2, he⟩ := he
    simp only [findA] at h
    cases hk : keyEq (.array n e) (.agg l) k' with
    | none => rw [hk] at h; cases h
    | some c =>
      rw [hk] at h
      have hs : (Op.equal t (.agg x) kk).run P w = .ok c w := by
        unfold keyEq at hk
        split at hk
        · rename_i heq _; cases heq
        · rename_i heq _; cases heq
        · rename_i heq _; cases heq
        · rename_i l1 l2 _ heq
          simp only [AV.agg.injEq] at heq
          subst heq
          simp only [Conc] at h1
          obtain ⟨y, rfl, hy⟩ := h1
          exact flat_ok hE hr hm hl (hel _ _ hk) hkd hk hx hy
        · cases hk
      simp only [Instr.findAsking, Sem.run_bind, hs, Result.andThen_ok]
      cases c with
      | true =>
        simp only [Option.some.injEq] at h
        subst h
        exact ⟨some (i, vv), rfl, rfl, h2⟩
      | false =>
        simp only [Bool.false_eq_true, if_false]
        exact findAsking_ok hr hd m hm hx hl hkd hel es rest (i + 1) q he h
omit hE in
theorem flatEq_length : ∀ {l m : List AV} {b : Bool}, flatEq l m = some b → m.length = l.length := by
  intro l m b h
  obtain ⟨⟨xs, rfl⟩, ys, rfl⟩ := flatEq_lits h
  induction xs generalizing ys b with
  | nil => cases ys with
    | nil => rfl
    | cons y ys => simp [flatEq] at h
  | cons x xs ih => cases ys with
    | nil => simp [flatEq] at h
    | cons y ys =>
      simp only [List.map_cons, flatEq] at h
      split at h
      · rename_i hy
        simpa using ih ys hy
      · cases h
theorem findKey_ok {t : TypeId} {k : AV} {d : TypeDesc} {x : Value} (h : keyTy E t k = some d) (hx : Conc γ k x) {es : List (AV × AV × Nat)} {es' : List MapEntry} {q : Option (Nat × AV)} (he : EntRel γ es es')
    (hf : findA d k es 0 = some q) : ∃ r', (Instr.findKey t x es').run P w = .ok r' w ∧ FindRel γ q r' := by
  unfold keyTy at h
  cases hr : E.ty t with
  | none => rw [hr] at h; cases h
  | some r =>
    rw [hr] at h
    simp only [] at h
    unfold Instr.findKey
    simp only [Sem.run_bind, run_und hE hr w, Result.andThen_ok]
    have plain : r.und = d → (∀ n e, d ≠ .array n e) → ∃ r', Sem.run P (match Instr.findNow r.und x es' 0 with
        | some r => pure r
        | none => Instr.findAsking t x es') w = .ok r' w ∧ FindRel γ q r' := by
      intro hd hn
      obtain ⟨r', h1, h2⟩ := findNow_ok hx hn es es' 0 q he hf
      rw [hd, h1]
      exact ⟨r', rfl, h2⟩
    split at h
    · rename_i hd
      simp only [Option.some.injEq] at h
      exact plain (hd.trans h) (by intro n e he; rw [← h] at he; cases he)
    · rename_i hd
      simp only [Option.some.injEq] at h
      exact plain (hd.trans h) (by intro n e he; rw [← h] at he; cases he)
    · rename_i hd
      simp only [Option.some.injEq] at h
      exact plain (hd.trans h) (by intro n e he; rw [← h] at he; cases he)
    · rename_i n e l hd
      split at h
      · rename_i m hm
        split at h
        · rename_i hb
          rw [Bool.and_eq_true] at hb
          simp only [Option.some.injEq] at h
          subst h
          simp only [Conc] at hx
          obtain ⟨a, rfl, ha⟩ := hx
          have hl := Nat.eq_of_beq_eq_true hb.1
          obtain ⟨r', h1, h2⟩ := findAsking_ok hE (w := w) hr hd m hm ha hl hb.2 (fun l' c hc => by rw [flatEq_length hc, hl]) es es' 0 q he hf
          cases es with
          | nil =>
            simp only [EntRel] at he
            subst he
            simp only [findA, Option.some.injEq] at hf
            subst hf
            exact ⟨none, rfl, trivial⟩
          | cons e0 es =>
            obtain ⟨k0, v0, b0⟩ := e0
            simp only [EntRel] at he
            obtain ⟨kk, vv, rest, rfl, he1, he2, he⟩ := he
            have : Instr.findNow r.und (.agg a) (⟨kk, vv, b0⟩ :: rest) 0 = none := by
              rw [hd]
              simp only [Instr.findNow, Instr.sameNow]
            rw [this]
            exact ⟨r', h1, h2⟩
        · cases h
      · cases h
    · cases h
omit hE in
theorem mapEs_ok (hR : Rel γ σ w) {x : AV} {y : Value} {es : List (AV × AV × Nat)} (h : mapEs σ x = some es) (hx : Conc γ x y) :
    (y = .map none ∧ es = []) ∨ (∃ r es' clock, y = .map (some r) ∧ w.heap[r]? = some (.map es' clock) ∧ EntRel γ es es'.toList) := by
  unfold mapEs at h
  split at h
  · rw [conc_lit_iff] at hx
    simp only [Option.some.injEq] at h
    exact .inl ⟨hx, h.symm⟩
  · rename_i o
    split at h
    · rename_i es0 clock hg
      simp only [Option.some.injEq] at h
      subst h
      simp only [Conc] at hx
      obtain ⟨r, rfl, hr⟩ := hx
      obtain ⟨p, hp, es', hb, he⟩ := hR.find hg (by simp) hr.ne
      rw [hr.at hp]
      exact .inr ⟨_, es', clock, rfl, hb, he⟩
    · cases h
  · cases h
theorem lookup_ok (hR : Rel γ σ w) {t : TypeId} {x k v : AV} {ok : Bool} (h : lookupA E σ t x k ok = some v) {x' k' : Value} (hx : Conc γ x x') (hk : Conc γ k k') :
    ∃ y, (Instr.lookup t x' k' ok).run P w = .ok y w ∧ Conc γ v y := by
  unfold lookupA at h
  cases hr : E.ty t with
  | none => rw [hr] at h; cases h
  | some r =>
    rw [hr] at h
    simp only [] at h
    split at h
    · rename_i kt et hd
      split at h
      · rename_i d es er hkt hes her
        have hck := fun b => checkKey_ok hE (w := w) (b := b) hkt hk
        have two : ∀ (a b : Value) (u v : AV), Conc γ u a → Conc γ v b → Conc γ (.tuple [u, v]) (.tuple #[a, b]) := by
          intro a b u v h1 h2
          simp only [Conc]
          exact ⟨_, rfl, by simp only [Concs]; exact ⟨a, [b], rfl, h1, b, [], rfl, h2, rfl⟩⟩
        unfold Instr.lookup
        simp only [Sem.run_bind, run_und hE hr w, Result.andThen_ok, hd]
        split at h
        · rename_i j u hf
          simp only [Option.some.injEq] at h
          subst h
          rcases mapEs_ok hR hes hx with ⟨rfl, he⟩ | ⟨r0, es', clock, rfl, hb, he⟩
          · subst he
            simp [findA] at hf
          · obtain ⟨r', h1, h2⟩ := findKey_ok hE (w := w) hkt hk he hf
            cases r' with
            | none => exact h2.elim
            | some r' =>
              have hg : (getObj r0).run P w = .ok (.map es' clock) w := by simp [getObj, Sem.run, hb]
              simp only [Sem.run_bind, hg, hck, h1, Result.andThen_ok, Sem.run_pure]
              cases ok with
              | true => exact ⟨_, rfl, two _ _ _ _ h2.2 (conc_lit γ _)⟩
              | false => exact ⟨_, rfl, h2.2⟩
        · rename_i hf
          split at h
          · rename_i z hz
            simp only [Option.some.injEq] at h
            subst h
            have hzz := conc_ofValue γ z
            rcases mapEs_ok hR hes hx with ⟨rfl, he⟩ | ⟨r0, es', clock, rfl, hb, he⟩
            · obtain ⟨r', h1, h2⟩ := findKey_ok hE (w := w) (es' := []) hkt hk (by rw [he]; rfl) hf
              cases r' with
              | some r' => exact h2.elim
              | none =>
                simp only [Sem.run_bind, hck, h1, Result.andThen_ok, Sem.run_pure, run_zero hE her w hz]
                cases ok with
                | true => exact ⟨_, rfl, two _ _ _ _ hzz (conc_lit γ _)⟩
                | false => exact ⟨_, rfl, hzz⟩
            · obtain ⟨r', h1, h2⟩ := findKey_ok hE (w := w) hkt hk he hf
              cases r' with
              | some r' => exact h2.elim
              | none =>
                have hg : (getObj r0).run P w = .ok (.map es' clock) w := by simp [getObj, Sem.run, hb]
                simp only [Sem.run_bind, hg, hck, h1, Result.andThen_ok, Sem.run_pure, run_zero hE her w hz]
                cases ok with
                | true => exact ⟨_, rfl, two _ _ _ _ hzz (conc_lit γ _)⟩
                | false => exact ⟨_, rfl, hzz⟩
          · cases h
        · cases h
      · cases h
    · cases h
end
end Go.Proofs.YtldjgpnbkbmgoaaGreatDoor.Ev
namespace Go.Proofs.YtldjgpnbkbmgoaaGreatDoor.Ev
section
variable {P : Program} {E : Env} (hE : EnvOk P E) {γ : Gam} {σ : AS} {w : World}
include hE
theorem len_ok (hR : Rel γ σ w) {t : TypeId} {x v : AV} (h : lenA E σ t x = some v) {y : Value} (hx : Conc γ x y) {ts : Array TypeId} {ty : TypeId} {ys : Array Value} (ht : ts[0]? = some t) (hy : ys[0]? = some y) :
    ∃ u, (Builtin.len_ ts ty ys).run P w = .ok u w ∧ Conc γ v u := by
  unfold lenA at h
  cases hr : E.ty t with
  | none => rw [hr] at h; cases h
  | some r =>
    rw [hr] at h
    simp only [] at h
    unfold Builtin.len_
    simp only [ht, hy, Sem.run_bind, run_und hE hr w, Result.andThen_ok]
    split at h
    · rename_i hd
      rw [conc_lit_iff] at hx; subst hx
      simp only [Option.some.injEq] at h; subst h
      rw [hd]
      exact ⟨_, rfl, conc_lit γ _⟩
    · rename_i hd
      simp only [Option.some.injEq] at h; subst h
      rw [hd]
      exact ⟨_, rfl, conc_lit γ _⟩
    · rename_i hd
      simp only [Conc] at hx; obtain ⟨a, c, rfl, _⟩ := hx
      simp only [Option.some.injEq] at h; subst h
      rw [hd]
      exact ⟨_, rfl, conc_lit γ _⟩
    · rename_i hd
      rw [conc_lit_iff] at hx; subst hx
      simp only [Option.some.injEq] at h; subst h
      rw [hd]
      exact ⟨_, rfl, conc_lit γ _⟩
    · rename_i hd
      split at h
      · rename_i es hes
        simp only [Option.some.injEq] at h; subst h
        rcases mapEs_ok hR hes hx with ⟨rfl, he⟩ | ⟨r0, es', clock, rfl, hb, he⟩
        · subst he
          rw [hd]
          exact ⟨_, rfl, conc_lit γ _⟩
        · have hg : (getObj r0).run P w = .ok (.map es' clock) w := by simp [getObj, Sem.run, hb]
          rw [hd]
          simp only [Sem.run_bind, hg, Result.andThen_ok, Sem.run_pure]
          refine ⟨_, rfl, ?_⟩
          have := entRel_length he
          rw [conc_lit_iff]
          have e : es'.size = es.length := by simpa using this
          rw [e]
      · cases h
    · cases h
omit hE in
theorem first_all (hR : Rel γ σ w) {size n : Nat} {x : AV} {l : List AV} (h : firstA σ size n x = some l) {y : Value} (hx : Conc γ x y) :
    ∃ cs : Array Value, (∀ w' : World, w'.heap = w.heap → (Builtin.firstCells size n y).run P w' = .ok cs w') ∧ Concs γ l cs.toList := by
  unfold firstA at h
  split at h
  · rename_i o off len cap
    simp only [Conc] at hx
    obtain ⟨a, c, rfl, ha, hlc, _⟩ := hx
    split at h
    · simp only [Option.some.injEq] at h; subst h
      refine ⟨#[], fun w' _ => ?_, by simp [Concs]⟩
      simp only [Builtin.firstCells, Nat.zero_mul]
      simpa using run_loadCells_list (P := P) w' a [] (by simp)
    · rename_i n
      split at h
      · rename_i l0 elem hg
        split at h
        · rename_i hle
          rw [Bool.and_eq_true] at hle
          have hnl := Nat.le_of_ble_eq_true hle.2
          replace hle := Nat.le_of_ble_eq_true hle.1
          simp only [Option.some.injEq] at h
          subst h
          have ha : atP γ o off a := ha.resolve_left (by omega)
          simp only [Builtin.firstCells]
          rw [show n.succ = n + 1 from rfl]
          obtain ⟨p, hp, cc, hb, hs, hl, hcs⟩ := hR.find hg (by simp) ha.ne
          obtain rfl := ha.at hp
          generalize (n + 1) * size = k at hle ⊢
          have hlen : ((cc.toList.drop (p.base + off)).take k).length = k := by simp; omega
          have hrun := fun (w' : World) (hw' : w'.heap = w.heap) => run_loadCells_list (P := P) w' ⟨p.block, p.base + off, none⟩ ((cc.toList.drop (p.base + off)).take k) (by
            intro j u hu
            rw [addr_add]
            have hj : j < k := by
              have := (List.getElem?_eq_some_iff.1 hu).1
              rw [hlen] at this; exact this
            rw [List.getElem?_take, if_pos hj, List.getElem?_drop] at hu
            simp only [World.cell?, hw', hb, Option.isSome_none, Bool.false_eq_true, if_false]
            simpa using hu)
          rw [hlen] at hrun
          refine ⟨_, hrun, ?_⟩
          simp only []
          refine concs_of (by rw [hlen]; simp; omega) fun i u hu => ?_
          rw [List.getElem?_take] at hu
          split at hu
          · rename_i hi
            rw [List.getElem?_drop] at hu
            obtain ⟨x, hx, hcx⟩ := hcs _ u hu
            refine ⟨x, ?_, hcx⟩
            rw [List.getElem?_take, if_pos hi, List.getElem?_drop, Nat.add_assoc]
            simpa using hx
          · simp at hu
        · cases h
      · cases h
  · rw [conc_lit_iff] at hx; subst hx
    simp only [Option.some.injEq] at h; subst h
    exact ⟨#[], fun _ _ => rfl, by simp [Concs]⟩
  · rename_i s
    rw [conc_lit_iff] at hx; subst hx
    simp only [Option.some.injEq] at h; subst h
    refine ⟨_, fun _ _ => rfl, ?_⟩
    have e : ((s.extract 0 n).data.map fun b => Value.int .u8 b.toNat).toList = (s.data.toList.take n).map fun b => Value.int .u8 b.toNat := by
      rw [Array.toList_map]
      congr 1
      simp [ByteArray.data_extract]
    rw [e]
    have := concs_lits γ ((s.data.toList.take n).map fun b => Value.int .u8 b.toNat)
    rw [List.map_map] at this
    exact this
  · cases h
omit hE in
theorem first_ok (hR : Rel γ σ w) {size n : Nat} {x : AV} {l : List AV} (h : firstA σ size n x = some l) {y : Value} (hx : Conc γ x y) :
    ∃ cs : Array Value, (Builtin.firstCells size n y).run P w = .ok cs w ∧ Concs γ l cs.toList := by
  obtain ⟨cs, h1, h2⟩ := first_all (P := P) hR h hx
  exact ⟨cs, h1 w rfl, h2⟩
omit hE in
theorem pushBytes_ok : ∀ (l : List AV) (s s' : ByteArray), pushBytes l s = some s' → ∃ ns : List Int, l = ns.map (fun n => .lit (.int .u8 n)) ∧ s' = ns.foldl (fun r n => r.push (UInt8.ofNat n.toNat)) s
  | [], s, s', h => by simp only [pushBytes, Option.some.injEq] at h; exact ⟨[], rfl, h.symm⟩
  | v :: l, s, s', h => by
    unfold pushBytes at h
    split at h
    · rename_i heq; cases heq
    · rename_i n l' heq
      cases heq
      obtain ⟨ns, rfl, e⟩ := pushBytes_ok _ _ _ h
      exact ⟨n :: ns, rfl, e⟩
    · cases h
theorem conv_ok (hR : Rel γ σ w) {src dst : TypeId} {x v : AV} (h : convA E σ src dst x = some (.pure v) ∨ convA E σ src dst x = some (.read v)) {y : Value} (hx : Conc γ x y) :
    ∃ u, (convert src dst y).run P w = .ok u w ∧ Conc γ v u := by
  replace h : ∃ out, convA E σ src dst x = some out ∧ (out = .pure v ∨ out = .read v) := by
    rcases h with h | h
    · exact ⟨_, h, .inl rfl⟩
    · exact ⟨_, h, .inr rfl⟩
  obtain ⟨out, h, ho⟩ := h
  unfold convA at h
  split at h
  · rename_i sr dr hs hd
    unfold convert
    simp only [Sem.run_bind, run_und hE hs w, run_und hE hd w, Result.andThen_ok]
    split at h
    · rename_i k k0 n hdd
      simp only [Option.some.injEq] at h; subst h
      obtain rfl : v = _ := by rcases ho with e | e <;> cases e; rfl
      rw [conc_lit_iff] at hx; subst hx
      rw [hdd]
      exact ⟨_, rfl, conc_lit γ _⟩
    · rename_i s hdd
      simp only [Option.some.injEq] at h; subst h
      obtain rfl : v = _ := by rcases ho with e | e <;> cases e; rfl
      rw [conc_lit_iff] at hx; subst hx
      rw [hdd]
      exact ⟨_, rfl, conc_lit γ _⟩
    · rename_i hdd _
      split at h
      · rename_i e hsd
        split at h
        · rename_i er her
          split at h
          · rename_i hed
            split at h
            · simp only [Option.some.injEq] at h; subst h
              obtain rfl : v = _ := by rcases ho with e | e <;> cases e; rfl
              rw [conc_lit_iff] at hx; subst hx
              refine ⟨.string .empty, ?_, conc_lit γ _⟩
              rw [hsd, hdd]
              simp only [Sem.run_bind, run_und hE her w, Result.andThen_ok, hed]
              rfl
            · split at h
              · rename_i l hl
                obtain ⟨s, hps, rfl⟩ := Option.map_eq_some_iff.1 h
                obtain rfl : v = _ := by rcases ho with e | e <;> cases e; rfl
                have hx' := hx
                simp only [Conc] at hx
                obtain ⟨a, c, rfl, _⟩ := hx
                obtain ⟨cs, hrun, hcs⟩ := first_ok hR hl hx'
                obtain ⟨ns, rfl, rfl⟩ := pushBytes_ok _ _ _ hps
                refine ⟨_, ?_, conc_lit γ _⟩
                rw [hsd, hdd]
                simp only [Sem.run_bind, run_und hE her w, Result.andThen_ok, hed]
                refine run_bytesToString w _ _ _ ns ?_
                have e1 : cs.toList = ns.map (Value.int .u8) := by
                  have := concs_lits_eq (γ := γ) (xs := ns.map (Value.int .u8)) (ys := cs.toList) (by rw [List.map_map]; exact hcs)
                  exact this
                simp only [Builtin.firstCells, Nat.mul_one] at hrun
                rw [hrun, ← e1]
              · cases h
            · cases h
          · cases h
        · cases h
      · cases h
    · cases h
  · cases h
omit hE in
theorem minmaxFrom_ok {f : Value → Value → Sem Value} : ∀ (l : List AV) (v u : AV) (x : Value) (xs : List Value), minmaxFrom f v l = some u → Conc γ v x → Concs γ l xs → ∃ y, (xs.foldlM f x).run P w = .ok y w ∧ Conc γ u y
  | [], v, u, x, xs, h, hx, hl => by
    simp only [Concs] at hl; subst hl
    simp only [minmaxFrom, Option.some.injEq] at h; subst h
    exact ⟨x, rfl, hx⟩
  | a :: l, v, u, x, xs, h, hx, hl => by
    unfold minmaxFrom at h
    split at h
    · rename_i heq; cases heq
    · rename_i k n k' m rest heq
      cases heq
      simp only [Concs] at hl
      obtain ⟨y, ys, rfl, hy, hl⟩ := hl
      rw [conc_lit_iff] at hx hy; subst hx hy
      split at h
      · rename_i z hz
        obtain ⟨c, hc, rfl⟩ := semVal_some hz
        obtain ⟨y, h1, h2⟩ := minmaxFrom_ok _ _ _ c ys h (conc_lit γ c) hl
        refine ⟨y, ?_, h2⟩
        simp only [List.foldlM_cons, Sem.run_bind, hc, Sem.run_pure', Result.andThen_ok, h1]
      · cases h
    · cases h
omit hE in
theorem entry_ok (hR : Rel γ σ w) {it v : AV} (h : entryA σ it = some v) {y : Value} (hx : Conc γ it y) : ∃ u, (Instr.entry y).run P w = .ok u w ∧ Conc γ v u := by
  unfold entryA at h
  split at h
  · rename_i r0
    split at h
    · rename_i m since seen stepped hg
      split at h
      · rename_i stamp es clock hst hm
        split at h
        · rename_i k u b hck hfind
          simp only [Option.some.injEq] at h; subst h
          simp only [Conc] at hx
          obtain ⟨a, rfl, ha⟩ := hx
          obtain ⟨p, hp, hb0, rr, hb, hmr⟩ := hR.find hg (by simp) ha.ne
          obtain rfl := ha.at hp
          obtain ⟨q, hq, es', hbm, he⟩ := hR.find hm (by simp) hmr.ne
          obtain rfl := hmr.at hq
          have hg1 : (getObj p.block).run P w = .ok (.mapIter (some q.block) since seen.toArray stepped) w := by simp [getObj, Sem.run, hb]
          have hg2 : (getObj q.block).run P w = .ok (.map es' clock) w := by simp [getObj, Sem.run, hbm]
          have hback : seen.toArray.back? = some stamp := by simpa using hst
          have hckk := Nat.eq_of_beq_eq_true hck
          have hf : ∀ (es : List (AV × AV × Nat)) (es' : List MapEntry), EntRel γ es es' → es.find? (fun e => Nat.beq e.2.2 stamp) = some (k, u, b) → ∃ k' u', es'.find? (·.born == stamp) = some ⟨k', u', b⟩ ∧ Conc γ k k' ∧ Conc γ u u' := by
            intro es
            induction es with
            | nil => intro es' _ h; simp at h
            | cons e es ih =>
              intro es' he h
              obtain ⟨k0, v0, b0⟩ := e
              simp only [EntRel] at he
              obtain ⟨k', v', rest, rfl, h1, h2, he⟩ := he
              rw [List.find?_cons] at h ⊢
              simp only [] at h ⊢
              cases hb : Nat.beq b0 stamp with
              | true =>
                have := Nat.eq_of_beq_eq_true hb
                subst this
                rw [hb] at h
                simp only [Option.some.injEq, Prod.mk.injEq] at h
                obtain ⟨rfl, rfl, rfl⟩ := h
                exact ⟨k', v', by simp, h1, h2⟩
              | false =>
                have := Nat.ne_of_beq_eq_false hb
                rw [hb] at h
                simp only [] at h
                have hne : (b0 == stamp) = false := by simpa using this
                rw [hne]
                exact ih _ he h
          obtain ⟨k', u', hf', hk', hu'⟩ := hf es es'.toList he hfind
          have hf'' : es'.find? (·.born == stamp) = some ⟨k', u', b⟩ := by rw [← Array.find?_toList]; exact hf'
          unfold Instr.entry
          rw [hb0]
          simp only [Sem.run_bind, hg1, Result.andThen_ok, hback, hg2, hckk, hf'']
          refine ⟨.tuple #[k', u'], ?_, ?_⟩
          · simp
          · simp only [Conc]
            exact ⟨_, rfl, by simp only [Concs]; exact ⟨k', [u'], rfl, hk', u', [], rfl, hu', rfl⟩⟩
        · cases h
      · cases h
    · cases h
  · cases h
theorem slice_ok {t : TypeId} {x v : AV} {lo hi mx : Option AV} (h : sliceA E t x lo hi mx = some v) {x' : Value} {lo' hi' mx' : Option Value} (hx : Conc γ x x') (h1 : OptRel γ lo lo') (h2 : OptRel γ hi hi') (h3 : OptRel γ mx mx') :
    ∃ u, (Instr.sliceAt t x' lo' hi' mx').run P w = .ok u w ∧ Conc γ v u := by
  unfold sliceA at h
  cases hr : E.ty t with
  | none => rw [hr] at h; cases h
  | some r =>
    rw [hr] at h
    simp only [] at h
    unfold Instr.sliceAt
    simp only [Sem.run_bind, run_und hE hr w, Result.andThen_ok]
    have hatp : ∀ {o off s : Nat} {a : Addr} {l : Nat}, atP γ o off a → atP γ o (off + l * s) (a.add (l * s)) := by
      intro o off s a l ha
      unfold atP at ha ⊢
      cases hg : γ o with
      | none => rw [hg] at ha; exact ha.elim
      | some q =>
        rw [hg] at ha
        cases q with
        | none => trivial
        | some p => simp only [] at ha ⊢; rw [ha, addr_add, Nat.add_assoc]
    have htopp : ∀ {o n m : Nat}, topP γ o n → m ≤ n → topP γ o m := by
      intro o n m h hm
      unfold topP at h ⊢
      cases hg : γ o with
      | none => rw [hg] at h; exact h.elim
      | some q =>
        rw [hg] at h
        cases q with
        | none => trivial
        | some p => simp only [] at h ⊢; omega
    split at h
    · rename_i n elem o off hd
      split at h
      · rename_i er l hh m her hb
        simp only [Option.some.injEq] at h; subst h
        simp only [Conc] at hx
        obtain ⟨a, rfl, ha⟩ := hx
        obtain ⟨mm, hrun, hlh, hm, hhm, hmc⟩ := bounds_ok (P := P) (w := w) (isSlice := false) (c := n) hb (.inl rfl) (Nat.le_refl _) h1 h2 h3
        obtain rfl : mm = m := by
          rcases hm with ⟨k, e, rfl⟩ | ⟨e, _⟩
          · cases e; rfl
          · cases e
        rw [hd]
        simp only [Instr.sureAddr, Sem.run_bind, Sem.run_pure, Result.andThen_ok, hrun, run_size hE her w]
        refine ⟨_, rfl, ?_⟩
        simp only [Conc]
        refine ⟨_, _, rfl, ?_, by omega, rfl⟩
        by_cases hml : mm = l
        · exact .inl (by omega)
        · rw [if_neg hml]; exact .inr (hatp ha)
      · cases h
    · rename_i elem o off len cap hd
      split at h
      · rename_i er l hh m her hb
        obtain ⟨cap', hcap, rfl⟩ := Option.map_eq_some_iff.1 h
        simp only [Conc] at hx
        obtain ⟨a, c, rfl, ha, hlc, hcc⟩ := hx
        have hck : cap.known = some c ∨ (cap.known = none ∧ len ≤ c) := by
          cases cap with
          | k n => simp only [] at hcc; subst hcc; exact .inl rfl
          | grown s => exact .inr ⟨rfl, hlc⟩
        obtain ⟨mm, hrun, hlh, hm, hhm, hmc⟩ := bounds_ok (P := P) (w := w) (isSlice := true) hb hck hlc h1 h2 h3
        rw [hd]
        simp only [Instr.slice, Sem.run_bind, run_und hE hr w, hd, Result.andThen_ok, hrun, run_size hE her w, Sem.run_pure]
        have hsl : (if mm = l then some a else Option.map (fun x => x.add (l * er.info.size)) (some a)) = some (if mm = l then a else a.add (l * er.info.size)) := by
          split <;> rfl
        rw [hsl]
        refine ⟨_, rfl, ?_⟩
        simp only [Conc]
        refine ⟨_, _, rfl, ?_, by omega, ?_⟩
        · by_cases hml : mm = l
          · exact .inl (by omega)
          · rw [if_neg hml]
            refine .inr (hatp (ha.resolve_left ?_))
            omega
        · unfold capAfter at hcap
          split at hcap
          · simp only [Option.some.injEq] at hcap
            subst hcap
            rcases hm with ⟨k, e, rfl⟩ | ⟨e, _⟩
            · cases e; rfl
            · cases e
          · split at hcap
            · rename_i s
              split at hcap
              · rename_i hs
                simp only [Option.some.injEq] at hcap
                subst hcap
                rcases hm with ⟨k, e, _⟩ | ⟨_, _, rfl⟩
                · cases e
                · simp only [] at hcc ⊢
                  have := Nat.eq_of_beq_eq_true hs
                  subst this
                  refine htopp hcc ?_
                  rw [Nat.sub_mul]
                  have := Nat.mul_le_mul_right er.info.size (Nat.le_trans hlh hhm)
                  omega
              · cases hcap
            · cases hcap
      · cases h
    · rename_i elem len cap hd
      split at h
      · rename_i er l hh m her hb hle
        simp only [Option.some.injEq] at h; subst h
        rw [conc_lit_iff] at hx; subst hx
        obtain ⟨mm, hrun, hlh, hm, hhm, hmc⟩ := bounds_ok (P := P) (w := w) (isSlice := true) hb (.inl rfl) (Nat.le_of_ble_eq_true hle) h1 h2 h3
        obtain rfl : mm = m := by
          rcases hm with ⟨k, e, rfl⟩ | ⟨e, _⟩
          · cases e; rfl
          · cases e
        rw [hd]
        simp only [Instr.slice, Sem.run_bind, run_und hE hr w, hd, Result.andThen_ok, hrun, run_size hE her w, Sem.run_pure]
        refine ⟨_, rfl, ?_⟩
        rw [conc_lit_iff]
        congr 1
        split <;> rfl
      · cases h
    · rename_i s hd
      split at h
      · rename_i l hh m hb
        simp only [Option.some.injEq] at h; subst h
        rw [conc_lit_iff] at hx; subst hx
        cases mx' with
        | some _ => exact h3.elim
        | none =>
          obtain ⟨mm, hrun, hlh, hm, hhm, hmc⟩ := bounds_ok (P := P) (w := w) (isSlice := false) (mx' := none) hb (.inl rfl) (Nat.le_refl _) h1 h2 trivial
          rw [hd]
          simp only [Instr.slice, Sem.run_bind, run_und hE hr w, hd, Result.andThen_ok, hrun, Sem.run_pure, Option.isSome_none, Bool.false_eq_true, if_false]
          exact ⟨_, rfl, conc_lit γ _⟩
      · cases h
    · cases h
end
end Go.Proofs.YtldjgpnbkbmgoaaGreatDoor.Ev

namespace Go.Proofs.YtldjgpnbkbmgoaaGreatDoor.Ev
theorem blt_t {a b : Nat} (h : Nat.blt a b = true) : a < b := Nat.le_of_ble_eq_true h
theorem run_v {P : Program} {w w' : World} {s : Sem Value} {x : Value} (h : s.run P w = .ok x w') : (do let r ← s; pure (Next.value r) : Sem Next).run P w = .ok (.value x) w' := by
  simp only [Sem.run_bind, h, Result.andThen_ok, Sem.run_pure]
section
variable {P : Program} {E : Env} (hE : EnvOk P E) {γ : Gam} {σ : AS} {w : World} {t : Tmps} {ρ : Operand → Value}
include hE
omit hE in
theorem optOp_ok (hρ : OpRel γ t ρ) {x : Option Operand} {v : Option AV} (h : optOp t x = some v) : OptRel γ v (x.map ρ) := by
  unfold optOp at h
  split at h
  · simp only [Option.some.injEq] at h; subst h; trivial
  · split at h
    · rename_i hx
      simp only [Option.some.injEq] at h; subst h
      exact hρ _ _ hx
    · cases h
omit hE in
theorem minmax_ok {f : Value → Value → Sem Value} {l : List AV} {u : AV} {xs : List Value} (h : minmax f l = some u) (hl : Concs γ l xs) :
    ∃ x rest y, xs = x :: rest ∧ (rest.foldlM f x).run P w = .ok y w ∧ Conc γ u y := by
  cases l with
  | nil => simp [minmax] at h
  | cons v l =>
    simp only [Concs] at hl
    obtain ⟨x, xs, rfl, hx, hl⟩ := hl
    obtain ⟨y, h1, h2⟩ := minmaxFrom_ok (P := P) (w := w) l v u x xs h hx hl
    exact ⟨x, xs, y, rfl, h1, h2⟩
theorem val_ok (hR : Rel γ σ w) (hρ : OpRel γ t ρ) (o : Oper) {out : Out} {v : AV} (h : evOp E t σ o.op = some out) (ho : out = .pure v ∨ out = .read v) :
    ∃ x, (execOp ρ o).run P w = .ok (.value x) w ∧ Conc γ v x := by
  obtain ⟨dst, op, type, pos, after, guard⟩ := o
  simp only [] at h
  cases op <;> simp only [evOp] at h
  case move x =>
    obtain ⟨u, hu, rfl⟩ := Option.map_eq_some_iff.1 h
    rcases ho with e | e <;> cases e
    exact ⟨ρ x, rfl, hρ _ _ hu⟩
  case assign x =>
    obtain ⟨u, hu, rfl⟩ := Option.map_eq_some_iff.1 h
    rcases ho with e | e <;> cases e
  case pick c a b =>
    simp only [execOp]
    split at h
    · rename_i hc
      obtain ⟨u, hu, rfl⟩ := Option.map_eq_some_iff.1 h
      rcases ho with e | e <;> cases e
      have := hρ _ _ hc
      rw [conc_lit_iff] at this
      refine ⟨ρ a, ?_, hρ _ _ hu⟩
      rw [this]
      rfl
    · rename_i hc
      obtain ⟨u, hu, rfl⟩ := Option.map_eq_some_iff.1 h
      rcases ho with e | e <;> cases e
      have := hρ _ _ hc
      rw [conc_lit_iff] at this
      refine ⟨ρ b, ?_, hρ _ _ hu⟩
      rw [this]
      rfl
    · cases h
  case alloc elem =>
    split at h
    · obtain ⟨u, hu, rfl⟩ := Option.map_eq_some_iff.1 h
      rcases ho with e | e <;> cases e
    · cases h
  case box elem x =>
    obtain ⟨u, hu, rfl⟩ := Option.map_eq_some_iff.1 h
    rcases ho with e | e <;> cases e
  case build ty parts =>
    simp only [execOp]
    split at h
    · rename_i r vs hr hvs
      have hc := concs_allSome hρ hvs
      split at h
      · rename_i z hz
        rw [List.map_map] at hc
        have hb := fun v h => build_ok (v := v) hE (w := w) (is := []) (os := []) (ρ := ρ) (parts := parts) hr hz hc h
        obtain ⟨x, hx⟩ : ∃ u, (match r.und with
            | .struct fs => match places E fs.toList with
              | some ps => (fillA (ps[·]?) (ofValue z).cells ((parts.toList.map (·.1)).zip vs)).map fun l => AV.agg l
              | none => none
            | .array _ elem => match E.ty elem with
              | some er => (fillA (fun i => some (i * er.info.size, er.info.size)) (ofValue z).cells ((parts.toList.map (·.1)).zip vs)).map fun l => AV.agg l
              | none => none
            | _ => none) = some u ∧ out = .pure u := by
          split at h
          · rename_i hd
            split at h
            · rename_i hp
              obtain ⟨l, hl, rfl⟩ := Option.map_eq_some_iff.1 h
              exact ⟨.agg l, by simp only [hd, hp, hl, Option.map_some], rfl⟩
            · cases h
          · rename_i hd
            split at h
            · rename_i hp
              obtain ⟨l, hl, rfl⟩ := Option.map_eq_some_iff.1 h
              exact ⟨.agg l, by simp only [hd, hp, hl, Option.map_some], rfl⟩
            · cases h
          · cases h
        obtain ⟨hx, rfl⟩ := hx
        rcases ho with e | e <;> cases e
        obtain ⟨y, h1, h2⟩ := hb _ hx
        exact ⟨y, run_v h1, h2⟩
      · cases h
    · cases h
  case buildSlice ty len parts =>
    split at h
    · split at h
      · split at h
        · split at h
          · split at h
            · obtain ⟨u, hu, rfl⟩ := Option.map_eq_some_iff.1 h
              rcases ho with e | e <;> cases e
            · cases h
          · cases h
        · cases h
      · cases h
    · cases h
  case load ty a =>
    simp only [execOp]
    split at h
    · rename_i o off ha
      obtain ⟨u, hu, rfl⟩ := Option.map_eq_some_iff.1 h
      rcases ho with e | e <;> cases e
      have hc := hρ _ _ ha
      simp only [Conc] at hc
      obtain ⟨ad, had, hat⟩ := hc
      obtain ⟨x, h1, h2⟩ := load_ok hE hR hu hat
      refine ⟨x, run_v ?_, h2⟩
      rw [had]
      simp only [Instr.loadAt, Instr.sureAddr, Sem.run_bind, Sem.run_pure, Result.andThen_ok, h1]
    · cases h
  case store ty a x =>
    split at h
    · obtain ⟨u, hu, rfl⟩ := Option.map_eq_some_iff.1 h
      rcases ho with e | e <;> cases e
    · cases h
  case nilCheck x =>
    simp only [execOp]
    split at h
    · rename_i o off hx
      simp only [Option.some.injEq] at h; subst h
      rcases ho with e | e <;> cases e
      have hc := hρ _ _ hx
      have hc' := hc
      simp only [Conc] at hc
      obtain ⟨ad, had, _⟩ := hc
      refine ⟨ρ x, ?_, hc'⟩
      rw [had]; rfl
    · rename_i f a b hx
      simp only [Option.some.injEq] at h; subst h
      rcases ho with e | e <;> cases e
      have hc := hρ _ _ hx
      have hc' := hc
      rw [conc_lit_iff] at hc
      refine ⟨ρ x, ?_, hc'⟩
      rw [hc]; rfl
    · rename_i f a b hx
      simp only [Option.some.injEq] at h; subst h
      rcases ho with e | e <;> cases e
      have hc := hρ _ _ hx
      have hc' := hc
      simp only [Conc] at hc
      obtain ⟨a', b', had, _⟩ := hc
      refine ⟨ρ x, ?_, hc'⟩
      rw [had]; rfl
    · rename_i ty u hx
      simp only [Option.some.injEq] at h; subst h
      rcases ho with e | e <;> cases e
      have hc := hρ _ _ hx
      have hc' := hc
      simp only [Conc] at hc
      obtain ⟨y, had, _⟩ := hc
      refine ⟨ρ x, ?_, hc'⟩
      rw [had]; rfl
    · cases h
  case binOp op ty x y yt =>
    simp only [execOp]
    split at h
    · rename_i a b ha hb
      obtain ⟨u, hu, rfl⟩ := Option.map_eq_some_iff.1 h
      rcases ho with e | e <;> cases e
      obtain ⟨z, h1, h2⟩ := binA_ok hE (w := w) (ox := x) (oy := y) hu (hρ _ _ ha) (hρ _ _ hb)
      exact ⟨z, run_v h1, h2⟩
    · cases h
  case unOp op ty x =>
    simp only [execOp]
    split at h
    · rename_i a ha
      obtain ⟨u, hu, rfl⟩ := Option.map_eq_some_iff.1 h
      rcases ho with e | e <;> cases e
      obtain ⟨z, h1, h2⟩ := unA_ok (P := P) (w := w) hu (hρ _ _ ha)
      exact ⟨z, run_v h1, h2⟩
    · cases h
  case convert src dst x =>
    simp only [execOp]
    split at h
    · rename_i a ha
      obtain ⟨z, h1, h2⟩ := conv_ok hE hR (v := v) (ho.imp (fun e => e ▸ h) (fun e => e ▸ h)) (hρ _ _ ha)
      exact ⟨z, run_v h1, h2⟩
    · cases h
  case makeInterface ty x =>
    simp only [execOp]
    split at h
    · rename_i r u hr hu
      split at h
      · cases h
      · rename_i hd
        simp only [Option.some.injEq] at h; subst h
        rcases ho with e | e <;> cases e
        refine ⟨.iface ty (ρ x), run_v ?_, by simp only [Conc]; exact ⟨_, rfl, hρ _ _ hu⟩⟩
        unfold Instr.makeInterface
        simp only [Sem.run_bind, run_und hE hr w, Result.andThen_ok]
        rfl
    · cases h
  case makeFunc fn first captured =>
    simp only [execOp]
    split at h
    · rename_i a b ha hb
      simp only [Option.some.injEq] at h; subst h
      rcases ho with e | e <;> cases e
      have h1 := concs_allSome hρ ha
      have h2 := concs_allSome hρ hb
      refine ⟨_, run_v rfl, ?_⟩
      simp only [Conc]
      exact ⟨_, _, rfl, by simpa using h1, by simpa using h2⟩
    · cases h
  case makeMap ty r =>
    cases r with
    | none =>
      simp only [Option.some.injEq] at h; subst h
      rcases ho with e | e <;> cases e
    | some _ => cases h
  case makeSlice ty l c =>
    split at h
    · split at h
      · split at h
        · split at h
          · split at h
            · simp only [Option.some.injEq] at h; subst h
              rcases ho with e | e <;> cases e
            · cases h
          · cases h
        · cases h
      · cases h
    · cases h
  case slice ty x lo hi mx =>
    simp only [execOp]
    split at h
    · rename_i a lo' hi' mx' ha hlo hhi hmx
      obtain ⟨u, hu, rfl⟩ := Option.map_eq_some_iff.1 h
      rcases ho with e | e <;> cases e
      obtain ⟨z, h1, h2⟩ := slice_ok hE (w := w) hu (hρ _ _ ha) (optOp_ok hρ hlo) (optOp_ok hρ hhi) (optOp_ok hρ hmx)
      exact ⟨z, run_v h1, h2⟩
    · cases h
  case fieldAddr ty x f =>
    simp only [execOp]
    split at h
    · rename_i r o off hr hx
      split at h
      · rename_i fs hd
        split at h
        · rename_i fd hfd
          split at h
          · rename_i fr hfr
            split at h
            · rename_i hz
              simp only [Option.some.injEq] at h; subst h
              rcases ho with e | e <;> cases e
              have hc := hρ _ _ hx
              simp only [Conc] at hc
              obtain ⟨a, had, hat⟩ := hc
              have hz := Nat.ne_of_beq_eq_false hz
              refine ⟨.pointer (some (a.add fd.offset)), run_v ?_, ?_⟩
              · rw [had]
                unfold Instr.fieldAt fieldPlace
                simp only [Sem.run_bind, run_und hE hr w, Result.andThen_ok, hd, hfd, Instr.sureAddr, Sem.run_pure, run_size hE hfr w, if_neg hz]
              · simp only [Conc]
                refine ⟨_, rfl, ?_⟩
                unfold atP at hat ⊢
                cases hg : γ o with
                | none => rw [hg] at hat; exact hat.elim
                | some q =>
                  rw [hg] at hat
                  cases q with
                  | none => trivial
                  | some p => simp only [] at hat ⊢; rw [hat, addr_add, Nat.add_assoc]
            · cases h
          · cases h
        · cases h
      · cases h
    · cases h
  case field ty x f =>
    simp only [execOp]
    split at h
    · rename_i r cs hr hx
      split at h
      · rename_i fs hd
        split at h
        · rename_i fd hfd
          obtain ⟨u, hu, rfl⟩ := Option.map_eq_some_iff.1 h
          rcases ho with e | e <;> cases e
          have hc := hρ _ _ hx
          simp only [Conc] at hc
          obtain ⟨a, had, hat⟩ := hc
          obtain ⟨z, h1, h2⟩ := part_ok hE (w := w) hu hat
          refine ⟨z, run_v ?_, h2⟩
          rw [had]
          unfold Instr.field
          simp only [Sem.run_bind, run_und hE hr w, Result.andThen_ok, hd, hfd, asAgg, Sem.run_pure, h1]
        · cases h
      · cases h
    · cases h
  case indexAddr ty x i =>
    simp only [execOp]
    have hatp : ∀ {o off s : Nat} {a : Addr} {l : Nat}, atP γ o off a → atP γ o (off + l * s) (a.add (l * s)) := by
      intro o off s a l ha
      unfold atP at ha ⊢
      cases hg : γ o with
      | none => rw [hg] at ha; exact ha.elim
      | some q =>
        rw [hg] at ha
        cases q with
        | none => trivial
        | some p => simp only [] at ha ⊢; rw [ha, addr_add, Nat.add_assoc]
    split at h
    · rename_i r xv iv hr hx hi
      split at h
      · rename_i len elem o off i' hd hn
        split at h
        · rename_i er her hlt
          simp only [Option.some.injEq] at h; subst h
          rcases ho with e | e <;> cases e
          have hlt := blt_t hlt
          obtain ⟨k, hk⟩ := natOf_some hn (hρ _ _ hi)
          have hc := hρ _ _ hx
          simp only [Conc] at hc
          obtain ⟨a, had, hat⟩ := hc
          refine ⟨.pointer (some (a.add (i' * er.info.size))), run_v ?_, by simp only [Conc]; exact ⟨_, rfl, hatp hat⟩⟩
          rw [had, hk]
          unfold Instr.indexAt
          have hin : (0 ≤ (i' : Int) ∧ (i' : Int) < (len : Int)) := ⟨by omega, by omega⟩
          simp only [asIntOf, Instr.sureAddr, Sem.run_bind, run_und hE hr w, Result.andThen_ok, hd, Sem.run_pure, hin, and_self, if_true, run_size hE her w, Int.toNat_natCast]
        · cases h
      · rename_i elem o off len cap i' hd hn
        split at h
        · rename_i er her hlt
          simp only [Option.some.injEq] at h; subst h
          rcases ho with e | e <;> cases e
          have hlt := blt_t hlt
          obtain ⟨k, hk⟩ := natOf_some hn (hρ _ _ hi)
          have hc := hρ _ _ hx
          simp only [Conc] at hc
          obtain ⟨a, c, had, hat, hlc, _⟩ := hc
          have hat := hat.resolve_left (by omega)
          refine ⟨.pointer (some (a.add (i' * er.info.size))), run_v ?_, by simp only [Conc]; exact ⟨_, rfl, hatp hat⟩⟩
          rw [had, hk]
          unfold Instr.indexAt
          have hin : (0 ≤ (i' : Int) ∧ (i' : Int) < (len : Int)) := ⟨by omega, by omega⟩
          simp only [asIntOf, Sem.run_bind, run_und hE hr w, Result.andThen_ok, hd, Sem.run_pure, hin, and_self, if_true, run_size hE her w, Int.toNat_natCast]
        · cases h
      · cases h
    · cases h
  case index ty x i =>
    simp only [execOp]
    split at h
    · rename_i r xv iv hr hx hi
      split at h
      · rename_i len elem cs i' hd hn
        split at h
        · rename_i er her hlt
          obtain ⟨u, hu, rfl⟩ := Option.map_eq_some_iff.1 h
          rcases ho with e | e <;> cases e
          have hlt := blt_t hlt
          obtain ⟨k, hk⟩ := natOf_some hn (hρ _ _ hi)
          have hc := hρ _ _ hx
          simp only [Conc] at hc
          obtain ⟨a, had, hat⟩ := hc
          obtain ⟨z, h1, h2⟩ := part_ok hE (w := w) hu hat
          refine ⟨z, run_v ?_, h2⟩
          rw [had, hk]
          unfold Instr.index
          have hin : (0 ≤ (i' : Int) ∧ (i' : Int) < (len : Int)) := ⟨by omega, by omega⟩
          simp only [asIntOf, Sem.run_bind, run_und hE hr w, Result.andThen_ok, hd, Sem.run_pure, hin, and_self, if_true, run_size hE her w, Int.toNat_natCast, h1]
        · cases h
      · rename_i s i' hd hn
        split at h
        · rename_i b hb
          simp only [Option.some.injEq] at h; subst h
          rcases ho with e | e <;> cases e
          obtain ⟨k, hk⟩ := natOf_some hn (hρ _ _ hi)
          have hc := hρ _ _ hx
          rw [conc_lit_iff] at hc
          refine ⟨.int .u8 b.toNat, run_v ?_, conc_lit γ _⟩
          rw [hc, hk]
          unfold Instr.index
          have hb' : s[i']? = some b := by
            have hlt : i' < s.data.toList.length := (List.getElem?_eq_some_iff.1 hb).1
            have hlt' : i' < s.size := by simpa using hlt
            have : s.data.toList[i'] = b := (List.getElem?_eq_some_iff.1 hb).2
            rw [getElem?_pos s i' hlt']
            rw [← this]
            rfl
          have hin : (0 ≤ (i' : Int)) := by omega
          simp only [asIntOf, Sem.run_bind, run_und hE hr w, Result.andThen_ok, hd, Sem.run_pure, hin, if_true, Int.toNat_natCast, hb']
        · cases h
      · cases h
    · cases h
  case lookup ty x k ok =>
    simp only [execOp]
    split at h
    · rename_i a b ha hb
      obtain ⟨u, hu, rfl⟩ := Option.map_eq_some_iff.1 h
      rcases ho with e | e <;> cases e
      obtain ⟨z, h1, h2⟩ := lookup_ok hE hR hu (hρ _ _ ha) (hρ _ _ hb)
      exact ⟨z, run_v h1, h2⟩
    · cases h
  case mapUpdate ty m k x =>
    split at h
    · obtain ⟨u, hu, rfl⟩ := Option.map_eq_some_iff.1 h
      rcases ho with e | e <;> cases e
    · cases h
  case insert ty m k x =>
    split at h
    · obtain ⟨u, hu, rfl⟩ := Option.map_eq_some_iff.1 h
      rcases ho with e | e <;> cases e
    · cases h
  case range ty x =>
    split at h
    · split at h
      · split at h
        · simp only [Option.some.injEq] at h; subst h
          rcases ho with e | e <;> cases e
        · cases h
      · cases h
    · cases h
  case next it isString =>
    split at h
    · obtain ⟨u, hu, rfl⟩ := Option.map_eq_some_iff.1 h
      rcases ho with e | e <;> cases e
    · cases h
  case entry it =>
    simp only [execOp]
    split at h
    · rename_i a ha
      obtain ⟨u, hu, rfl⟩ := Option.map_eq_some_iff.1 h
      rcases ho with e | e <;> cases e
      obtain ⟨z, h1, h2⟩ := entry_ok (P := P) hR hu (hρ _ _ ha)
      exact ⟨z, run_v h1, h2⟩
    · cases h
  case typeAssert x xt asserted ok =>
    simp only [execOp]
    split at h
    · rename_i r ty u hr hx
      split at h
      · cases h
      · rename_i hty hd
        simp only [Option.some.injEq] at h; subst h
        rcases ho with e | e <;> cases e
        have hc := hρ _ _ hx
        simp only [Conc] at hc
        obtain ⟨y, had, hy⟩ := hc
        have hty := Nat.eq_of_beq_eq_true hty
        subst hty
        have hrun : (Instr.typeAssert (ρ x) xt ty ok).run P w = .ok (if ok then .tuple #[y, .bool true] else y) w := by
          rw [had]
          unfold Instr.typeAssert
          simp only [Sem.run_bind, run_und hE hr w, Result.andThen_ok]
          simp
        refine ⟨_, run_v hrun, ?_⟩
        cases ok with
        | true =>
          simp only [Conc, if_true]
          exact ⟨_, rfl, by simp only [Concs]; exact ⟨y, [.bool true], rfl, hy, .bool true, [], rfl, conc_lit γ _, rfl⟩⟩
        | false => exact hy
      · cases h
    · cases h
  case extract x i =>
    simp only [execOp]
    split at h
    · rename_i vs hx
      obtain ⟨u, hu, rfl⟩ := Option.map_eq_some_iff.1 h
      rcases ho with e | e <;> cases e
      have hc := hρ _ _ hx
      simp only [Conc] at hc
      obtain ⟨a, had, hat⟩ := hc
      obtain ⟨y, hy, hcy⟩ := concs_get hat i v hu
      refine ⟨y, run_v ?_, hcy⟩
      rw [had]
      have : a[i]? = some y := by simpa using hy
      simp only [Instr.extract, this, Sem.run_pure]
    · rename_i vs hx
      obtain ⟨u, hu, rfl⟩ := Option.map_eq_some_iff.1 h
      rcases ho with e | e <;> cases e
      have hc := hρ _ _ hx
      rw [conc_lit_iff] at hc
      refine ⟨u, run_v ?_, conc_lit γ u⟩
      rw [hc]
      simp only [Instr.extract, hu, Sem.run_pure]
    · cases h
  case call c =>
    split at h
    · cases h
    · rename_i args hargs
      have hc := concs_allSome hρ hargs
      have hnc : ∀ f, fnCall f args = some out → False := by
        intro f hf
        unfold fnCall at hf
        split at hf
        · simp only [Option.some.injEq] at hf; subst hf
          rcases ho with e | e <;> cases e
        · simp only [Option.some.injEq] at hf; subst hf
          rcases ho with e | e <;> cases e
        · cases hf
      split at h
      · split at h
        · exact (hnc _ h).elim
        · cases h
      · rename_i b hcal
        simp only [execOp, resolve, hcal, invoke, builtin]
        unfold builtinA at h
        split at h
        · rename_i ty _ x _
          obtain ⟨u, hu, rfl⟩ := Option.map_eq_some_iff.1 h
          rcases ho with e | e <;> cases e
          rename_i hts
          simp only [Concs] at hc
          obtain ⟨y, ys, hys, hy, _⟩ := hc
          obtain ⟨z, h1, h2⟩ := len_ok hE hR hu hy (ts := c.argTypes) (ty := type) (ys := c.args.map ρ) (by rw [← Array.getElem?_toList, hts]; rfl) (by rw [← Array.getElem?_toList, Array.toList_map, hys]; rfl)
          refine ⟨z, ?_, h2⟩
          simp only [Sem.run_bind, Sem.run_pure, Result.andThen_ok, builtin]
          simp only [h1, Result.andThen_ok]
        · split at h
          · split at h
            · split at h
              · cases h
              · obtain ⟨u, hu, rfl⟩ := Option.map_eq_some_iff.1 h
                rcases ho with e | e <;> cases e
            · cases h
          · cases h
        · obtain ⟨u, hu, rfl⟩ := Option.map_eq_some_iff.1 h
          rcases ho with e | e <;> cases e
        · obtain ⟨u, hu, rfl⟩ := Option.map_eq_some_iff.1 h
          rcases ho with e | e <;> cases e
        · obtain ⟨u, hu, rfl⟩ := Option.map_eq_some_iff.1 h
          rcases ho with e | e <;> cases e
          obtain ⟨x, rest, z, hxs, h1, h2⟩ := minmax_ok (P := P) (w := w) hu hc
          refine ⟨z, ?_, h2⟩
          simp only [Sem.run_bind, Sem.run_pure, Result.andThen_ok, builtin, Builtin.min_, Array.toList_map, hxs]
          simp only [h1, Result.andThen_ok]
        · obtain ⟨u, hu, rfl⟩ := Option.map_eq_some_iff.1 h
          rcases ho with e | e <;> cases e
          obtain ⟨x, rest, z, hxs, h1, h2⟩ := minmax_ok (P := P) (w := w) hu hc
          refine ⟨z, ?_, h2⟩
          simp only [Sem.run_bind, Sem.run_pure, Result.andThen_ok, builtin, Builtin.max_, Array.toList_map, hxs]
          simp only [h1, Result.andThen_ok]
        · cases h
      · split at h
        · split at h
          · split at h
            · split at h
              · simp only [Option.some.injEq] at h; subst h
                rcases ho with e | e <;> cases e
              · cases h
            · cases h
          · cases h
        · cases h
  all_goals cases h
end
end Go.Proofs.YtldjgpnbkbmgoaaGreatDoor.Ev

namespace Go.Proofs.YtldjgpnbkbmgoaaGreatDoor.Ev
def upd (γ : Gam) (id : Nat) (q : Option Place) : Gam := fun o => if o = id then some q else γ o
theorem upd_self (γ : Gam) (id : Nat) (q : Option Place) : upd γ id q id = some q := by simp [upd]
theorem upd_ne (γ : Gam) {id o : Nat} (q : Option Place) (h : o ≠ id) : upd γ id q o = γ o := by simp [upd, h]
theorem ext_upd {γ : Gam} {id : Nat} (q : Option Place) (h : γ id = none) : Ext γ (upd γ id q) := fun o p hp => by
  have : o ≠ id := fun e => by rw [e, h] at hp; cases hp
  rw [upd_ne γ q this]; exact .inl hp
theorem ext_kill {γ : Gam} (id : Nat) : Ext γ (upd γ id none) := fun o p hp => by
  by_cases e : o = id
  · subst e; exact .inr (upd_self γ o none)
  · rw [upd_ne γ none e]; exact .inl hp
theorem ObjRel.mono {γ γ' : Gam} (hx : Ext γ γ') {ob : AObj} {p : Place} {w w' : World} (hw : w'.heap[p.block]? = w.heap[p.block]?) (h : ObjRel γ ob p w) : ObjRel γ' ob p w' := by
  cases ob with
  | cells l elem =>
    obtain ⟨c, hb, hs, hl, hc⟩ := h
    exact ⟨c, hw.trans hb, hs, hl, fun i v hv => let ⟨x, h1, h2⟩ := hc i v hv; ⟨x, h1, h2.mono hx _ _⟩⟩
  | map es clock =>
    obtain ⟨es', hb, he⟩ := h
    exact ⟨es', hw.trans hb, entRel_mono hx he⟩
  | iter m since seen stepped =>
    obtain ⟨h0, r, hb, hr⟩ := h
    exact ⟨h0, r, hw.trans hb, hr.mono hx⟩
  | dead => trivial
theorem ObjRel.lt {γ : Gam} {ob : AObj} {p : Place} {w : World} (h : ObjRel γ ob p w) (hd : ob ≠ .dead) : p.block < w.heap.size := by
  cases ob with
  | cells l elem => obtain ⟨c, hb, _⟩ := h; exact (Array.getElem?_eq_some_iff.1 hb).1
  | map es clock => obtain ⟨es', hb, _⟩ := h; exact (Array.getElem?_eq_some_iff.1 hb).1
  | iter m since seen stepped => obtain ⟨_, r, hb, _⟩ := h; exact (Array.getElem?_eq_some_iff.1 hb).1
  | dead => exact absurd rfl hd
structure Frz where
  w : World
  fz : Nat → Prop
structure Frame (F : Frz) (γ : Gam) (w : World) : Prop where
  os : w.os = F.w.os
  tape : w.tape = F.w.tape
  output : w.output = F.w.output
  size : F.w.heap.size ≤ w.heap.size
  old : ∀ b, F.fz b → b < F.w.heap.size
  block : ∀ b, F.fz b → w.heap[b]? = F.w.heap[b]?
  own : ∀ o p, γ o = some (some p) → ¬ F.fz p.block
structure Turn (b : Nat) (w w' : World) : Prop where
  os : w'.os = w.os
  tape : w'.tape = w.tape
  output : w'.output = w.output
  size : w.heap.size ≤ w'.heap.size
  block : ∀ c, c ≠ b → w'.heap[c]? = w.heap[c]?
theorem turn_set (w : World) (b : Nat) (o : Obj) : Turn b w { w with heap := w.heap.setIfInBounds b o } :=
  ⟨rfl, rfl, rfl, by simp, fun c h => Array.getElem?_setIfInBounds_ne (Ne.symm h)⟩
theorem Frame.turn {F : Frz} {γ : Gam} {w w' : World} (h : Frame F γ w) {b : Nat} (hb : ¬ F.fz b) (ht : Turn b w w') : Frame F γ w' :=
  ⟨ht.os.trans h.os, ht.tape.trans h.tape, ht.output.trans h.output, Nat.le_trans h.size ht.size, h.old, fun c hc => (ht.block c fun e => hb (e ▸ hc)).trans (h.block c hc), h.own⟩
theorem Frame.less {F : Frz} {γ γ' : Gam} {w : World} (h : Frame F γ w) (hg : ∀ o p, γ' o = some (some p) → ∃ o' p', γ o' = some (some p') ∧ p'.block = p.block) : Frame F γ' w :=
  ⟨h.os, h.tape, h.output, h.size, h.old, h.block, fun o p hp => let ⟨o', p', h1, h2⟩ := hg o p hp; h2 ▸ h.own o' p' h1⟩
theorem Frame.push {F : Frz} {γ γ' : Gam} {w : World} (h : Frame F γ w) (ob : Obj) (hg : ∀ o p, γ' o = some (some p) → γ o = some (some p) ∨ p.block = w.heap.size) : Frame F γ' { w with heap := w.heap.push ob } :=
  ⟨h.os, h.tape, h.output, by have := h.size; simp; omega, h.old, fun c hc => by
    have h1 := h.old c hc
    have h2 := h.size
    show (w.heap.push ob)[c]? = _
    rw [Array.getElem?_push, if_neg (by omega)]
    exact h.block c hc, fun o p hp => by
    rcases hg o p hp with h1 | h1
    · exact h.own o p h1
    · intro hc
      have h2 := h.old _ hc
      have h3 := h.size
      omega⟩
structure RelL (F : Frz) (γ : Gam) (σ : AS) (w : World) : Prop extends Rel γ σ w where
  live : ∀ o p, γ o = some (some p) → σ.heap.get o ≠ some .dead
  frame : Frame F γ w
theorem Rel.heap {γ : Gam} {σ : AS} {w w' : World} (h : Rel γ σ w) (hw : w'.heap = w.heap) : Rel γ σ w' :=
  ⟨h.dom, fun o p hp => let ⟨ob, h1, h2⟩ := h.obj o p hp; ⟨ob, h1, h2.mono (.refl γ) (by rw [hw])⟩, h.gone, h.inj, h.lim⟩
theorem RelL.heap {F : Frz} {γ : Gam} {σ : AS} {w w' : World} (h : RelL F γ σ w) (hw : w'.heap = w.heap) (h1 : w'.os = w.os := by rfl) (h2 : w'.tape = w.tape := by rfl) (h3 : w'.output = w.output := by rfl) : RelL F γ σ w' :=
  ⟨h.toRel.heap hw, h.live, ⟨h1.trans h.frame.os, h2.trans h.frame.tape, h3.trans h.frame.output, by rw [hw]; exact h.frame.size, h.frame.old, fun b hb => by rw [hw]; exact h.frame.block b hb, h.frame.own⟩⟩
theorem RelL.lt {F : Frz} {γ : Gam} {σ : AS} {w : World} (h : RelL F γ σ w) {o : Nat} {p : Place} (hp : γ o = some (some p)) : p.block < w.heap.size := by
  obtain ⟨ob, h1, h2⟩ := h.obj o p hp
  exact h2.lt fun e => h.live o p hp (by rw [h1, e])
theorem RelL.next_lt {F : Frz} {γ : Gam} {σ : AS} {w : World} (h : RelL F γ σ w) {o : Nat} (hp : γ o ≠ none) : o < σ.next := by
  rcases Nat.lt_or_ge o σ.next with h' | h'
  · exact h'
  · exact absurd (h.dom o h') hp
theorem RelL.more {F : Frz} {γ : Gam} {σ : AS} {w : World} (h : RelL F γ σ w) (hl : σ.next < lim) (ob : AObj) : RelL F γ { heap := σ.heap.put σ.next ob, next := σ.next + 1 } w := by
  have hne : ∀ o, γ o ≠ none → o ≠ σ.next := fun o ho e => ho (h.dom o (by omega))
  refine ⟨⟨fun o ho => h.dom o (by simp only [] at ho; omega), fun o p hp => ?_, fun o ho => ?_, h.inj, by simp only []; omega⟩, fun o p hp => ?_, h.frame⟩
  · obtain ⟨ob', h1, h2⟩ := h.obj o p hp
    refine ⟨ob', ?_, h2⟩
    simp only []
    rw [T.get_put _ _ _ _ (Nat.le_of_lt hl), if_neg (hne o (by rw [hp]; simp))]
    exact h1
  · simp only []
    rw [T.get_put _ _ _ _ (Nat.le_of_lt hl), if_neg (hne o (by rw [ho]; simp))]
    exact h.gone o ho
  · simp only []
    rw [T.get_put _ _ _ _ (Nat.le_of_lt hl), if_neg (hne o (by rw [hp]; simp))]
    exact h.live o p hp
theorem Step.more {F : Frz} {γ : Gam} {σ : AS} {w : World} (h : RelL F γ σ w) (hl : σ.next < lim) (ob : AObj) : Step γ σ γ { heap := σ.heap.put σ.next ob, next := σ.next + 1 } :=
  ⟨.refl γ, fun _ _ h => h, Nat.le_succ _, fun o ho _ => by simp only []; rw [T.get_put _ _ _ _ (Nat.le_of_lt hl), if_neg (by omega)]⟩
theorem RelL.place {F : Frz} {γ : Gam} {σ : AS} {w : World} (h : RelL F γ σ w) {id : Nat} {ob : AObj} (hid : id < σ.next) (hg : γ id = none) (hob : σ.heap.get id = some ob) (hd : ob ≠ .dead) (cob : Obj) (base top : Nat)
    (hrel : ObjRel (upd γ id (some ⟨w.heap.size, base, top⟩)) ob ⟨w.heap.size, base, top⟩ { w with heap := w.heap.push cob }) :
    RelL F (upd γ id (some ⟨w.heap.size, base, top⟩)) σ { w with heap := w.heap.push cob } := by
  have hx := ext_upd (some ⟨w.heap.size, base, top⟩) hg
  refine ⟨⟨fun o ho => ?_, fun o p hp => ?_, fun o ho => ?_, fun o o' p p' hp hp' e => ?_, h.lim⟩, fun o p hp => ?_, h.frame.push cob fun o p hp => ?_⟩
  · rw [upd_ne _ _ (by omega)]; exact h.dom o ho
  · by_cases e : o = id
    · subst e
      rw [upd_self] at hp
      cases hp
      exact ⟨ob, hob, hrel⟩
    · rw [upd_ne _ _ e] at hp
      obtain ⟨ob', h1, h2⟩ := h.obj o p hp
      refine ⟨ob', h1, h2.mono hx ?_⟩
      simp only []
      rw [Array.getElem?_push, if_neg (by have := h.lt hp; omega)]
  · by_cases e : o = id
    · subst e; rw [upd_self] at ho; cases ho
    · rw [upd_ne _ _ e] at ho; exact h.gone o ho
  · by_cases e1 : o = id <;> by_cases e2 : o' = id
    · rw [e1, e2]
    · subst e1
      rw [upd_self] at hp; cases hp
      rw [upd_ne _ _ e2] at hp'
      have := h.lt hp'
      simp only [] at e
      omega
    · subst e2
      rw [upd_self] at hp'; cases hp'
      rw [upd_ne _ _ e1] at hp
      have := h.lt hp
      simp only [] at e
      omega
    · rw [upd_ne _ _ e1] at hp
      rw [upd_ne _ _ e2] at hp'
      exact h.inj o o' p p' hp hp' e
  · by_cases e : o = id
    · subst e; rw [hob]; intro hh; exact hd (Option.some.inj hh)
    · rw [upd_ne _ _ e] at hp; exact h.live o p hp
  · by_cases e : o = id
    · subst e; rw [upd_self] at hp; cases hp; exact .inr rfl
    · rw [upd_ne _ _ e] at hp; exact .inl hp
theorem RelL.set {F : Frz} {γ : Gam} {σ : AS} {w w' : World} (h : RelL F γ σ w) {o : Nat} {p : Place} {ob : AObj} (hp : γ o = some (some p)) (hd : ob ≠ .dead)
    (hrel : ObjRel γ ob p w') (hw : Turn p.block w w') : RelL F γ { σ with heap := σ.heap.put o ob } w' := by
  have ho : o ≤ lim := Nat.le_trans (Nat.le_of_lt (h.next_lt (by rw [hp]; simp))) h.lim
  refine ⟨⟨h.dom, fun q r hq => ?_, fun q hq => ?_, h.inj, h.lim⟩, fun q r hq => ?_, h.frame.turn (h.frame.own o p hp) hw⟩
  · simp only []
    rw [T.get_put _ _ _ _ ho]
    by_cases e : q = o
    · subst e
      rw [hp] at hq; cases hq
      exact ⟨ob, by simp, hrel⟩
    · rw [if_neg e]
      obtain ⟨ob', h1, h2⟩ := h.obj q r hq
      exact ⟨ob', h1, h2.mono (.refl γ) (hw.block _ fun e' => e (h.inj q o r p hq hp e'))⟩
  · simp only []
    rw [T.get_put _ _ _ _ ho, if_neg (fun e => by rw [e, hp] at hq; cases hq)]
    exact h.gone q hq
  · simp only []
    rw [T.get_put _ _ _ _ ho]
    by_cases e : q = o
    · rw [if_pos e]; intro hh; exact hd (Option.some.inj hh)
    · rw [if_neg e]; exact h.live q r hq
theorem Step.set {F : Frz} {γ : Gam} {σ : AS} {w : World} (h : RelL F γ σ w) {o : Nat} {p : Place} (ob : AObj) (hp : γ o = some (some p)) : Step γ σ γ { σ with heap := σ.heap.put o ob } := by
  have ho : o ≤ lim := Nat.le_trans (Nat.le_of_lt (h.next_lt (by rw [hp]; simp))) h.lim
  exact ⟨.refl γ, fun _ _ h => h, Nat.le_refl _, fun q _ hq => by simp only []; rw [T.get_put _ _ _ _ ho, if_neg (fun e => by rw [e, hp] at hq; cases hq)]⟩
theorem RelL.kill {F : Frz} {γ : Gam} {σ : AS} {w : World} (h : RelL F γ σ w) {o : Nat} (hp : γ o ≠ none) : RelL F (upd γ o none) { σ with heap := σ.heap.put o .dead } w := by
  have ho' := h.next_lt hp
  have ho : o ≤ lim := Nat.le_trans (Nat.le_of_lt ho') h.lim
  refine ⟨⟨fun q hq => ?_, fun q r hq => ?_, fun q hq => ?_, fun q q' r r' hq hq' e => ?_, h.lim⟩, fun q r hq => ?_, h.frame.less fun q r hq => ⟨q, r, by rwa [upd_ne _ _ (fun e => by rw [e, upd_self] at hq; cases hq)] at hq, rfl⟩⟩
  · rw [upd_ne _ _ (by simp only [] at hq; omega)]; exact h.dom q hq
  · have e : q ≠ o := fun e => by rw [e, upd_self] at hq; cases hq
    rw [upd_ne _ _ e] at hq
    simp only []
    rw [T.get_put _ _ _ _ ho, if_neg e]
    obtain ⟨ob', h1, h2⟩ := h.obj q r hq
    exact ⟨ob', h1, h2.mono (ext_kill o) rfl⟩
  · simp only []
    rw [T.get_put _ _ _ _ ho]
    by_cases e : q = o
    · rw [if_pos e]
    · rw [if_neg e]; rw [upd_ne _ _ e] at hq; exact h.gone q hq
  · have e1 : q ≠ o := fun e => by rw [e, upd_self] at hq; cases hq
    have e2 : q' ≠ o := fun e => by rw [e, upd_self] at hq'; cases hq'
    rw [upd_ne _ _ e1] at hq
    rw [upd_ne _ _ e2] at hq'
    exact h.inj q q' r r' hq hq' e
  · have e : q ≠ o := fun e => by rw [e, upd_self] at hq; cases hq
    rw [upd_ne _ _ e] at hq
    simp only []
    rw [T.get_put _ _ _ _ ho, if_neg e]
    exact h.live q r hq
theorem Step.kill {F : Frz} {γ : Gam} {σ : AS} {w : World} (h : RelL F γ σ w) {o : Nat} (hp : γ o ≠ none) : Step γ σ (upd γ o none) { σ with heap := σ.heap.put o .dead } := by
  have ho : o ≤ lim := Nat.le_trans (Nat.le_of_lt (h.next_lt hp)) h.lim
  refine ⟨ext_kill o, fun q _ hq => ?_, Nat.le_refl _, fun q _ hq => ?_⟩
  · rw [upd_ne _ _ (fun e => hp (by rw [← e]; exact hq))]; exact hq
  · simp only []; rw [T.get_put _ _ _ _ ho, if_neg (fun e => hp (by rw [← e]; exact hq))]
theorem Step.place {γ : Gam} {σ : AS} {id : Nat} (q : Option Place) (hg : γ id = none) : ∀ σ0, σ0.next ≤ id → Step γ σ0 γ σ → Step γ σ0 (upd γ id q) σ := fun σ0 hid h =>
  ⟨ext_upd q hg, fun o ho hgo => by rw [upd_ne _ _ (by omega)]; exact h.new o ho hgo, h.le, h.same⟩
theorem obj_cells {γ γ' : Gam} (hx : Ext γ γ') {l : List AV} {cs : Array Value} {elem : TypeId} (h : Concs γ l cs.toList) {b : Nat} {w : World} (hw : w.heap[b]? = some (.cells cs elem (0, 0))) : ObjRel γ' (.cells l elem) ⟨b, 0, cs.size⟩ w :=
  ⟨cs, hw, ⟨rfl, fun _ => ⟨rfl, by have := concs_length h; simp at this; simp; omega⟩⟩, by have := concs_length h; simp at this; simp; omega, fun i v hv => by
    obtain ⟨x, h1, h2⟩ := concs_get h i v hv
    exact ⟨x, by simpa using h1, h2.mono hx _ _⟩⟩
section
variable {P : Program} {E : Env} (hE : EnvOk P E) {γ : Gam} {σ : AS} {w : World} {t : Tmps} {ρ : Operand → Value}
include hE
theorem new_ok (hρ : OpRel γ t ρ) (o : Oper) {ob : AObj} {k : NewK} (h : evOp E t σ o.op = some (.new ob k)) :
    ob ≠ .dead ∧ ∃ cob x top, (execOp ρ o).run P w = .ok (.value x) { w with heap := w.heap.push cob } ∧ ∀ γ' id w', Ext γ γ' → γ' id = some (some ⟨w.heap.size, 0, top⟩) → w'.heap[w.heap.size]? = some cob →
      ObjRel γ' ob ⟨w.heap.size, 0, top⟩ w' ∧ Conc γ' (k.val id) x := by
  obtain ⟨dst, op, type, pos, after, guard⟩ := o
  simp only [] at h
  have hptr : ∀ (γ' : Gam) (id top : Nat), γ' id = some (some ⟨w.heap.size, 0, top⟩) → Conc γ' (NewK.val id .ptr) (.pointer (some ⟨w.heap.size, 0, none⟩)) := by
    intro γ' id top hg
    simp only [NewK.val, Conc]
    exact ⟨_, rfl, by unfold atP; rw [hg]⟩
  have hsl : ∀ (γ' : Gam) (id top l c : Nat), l ≤ c → γ' id = some (some ⟨w.heap.size, 0, top⟩) → Conc γ' (NewK.val id (.slice l c)) (.slice (some ⟨w.heap.size, 0, none⟩) l c) := by
    intro γ' id top l c hlc hg
    simp only [NewK.val, Conc]
    exact ⟨_, _, rfl, .inr (by unfold atP; rw [hg]), hlc, rfl⟩
  cases op <;> simp only [evOp] at h
  case alloc elem =>
    split at h
    · rename_i r hr
      obtain ⟨z, hz, e⟩ := Option.map_eq_some_iff.1 h
      cases e
      refine ⟨by simp, .cells z.cells elem, .pointer (some ⟨w.heap.size, 0, none⟩), z.cells.size, ?_, fun γ' id w' hx hg hw => ⟨obj_cells hx (conc_cells (conc_ofValue γ z)) hw, hptr γ' id _ hg⟩⟩
      simp only [execOp]
      exact run_v (by simp only [Instr.alloc, Sem.run_bind, run_zero hE hr w hz, Result.andThen_ok, newVar, newRow, run_newObj, Sem.run_pure])
    · cases h
  case box elem x =>
    obtain ⟨v, hv, e⟩ := Option.map_eq_some_iff.1 h
    cases e
    refine ⟨by simp, .cells (ρ x).cells elem, .pointer (some ⟨w.heap.size, 0, none⟩), (ρ x).cells.size, ?_, fun γ' id w' hx hg hw => ⟨obj_cells hx (conc_cells (hρ _ _ hv)) hw, hptr γ' id _ hg⟩⟩
    simp only [execOp]
    exact run_v (by simp only [Instr.box, Sem.run_bind, Result.andThen_ok, newVar, newRow, run_newObj, Sem.run_pure])
  case makeMap ty r =>
    cases r with
    | some _ => cases h
    | none =>
      cases h
      refine ⟨by simp, .map #[] 0, .map (some w.heap.size), 0, ?_, fun γ' id w' hx hg hw => ⟨⟨#[], hw, rfl⟩, ?_⟩⟩
      · simp only [execOp, Option.map_none]
        exact run_v (by simp only [Instr.makeMap, Sem.run_bind, Result.andThen_ok, run_newObj, Sem.run_pure])
      · simp only [NewK.val, Conc]
        exact ⟨_, rfl, by unfold mapP; rw [hg]⟩
  case buildSlice ty len parts =>
    split at h
    · rename_i r vs hr hvs
      split at h
      · rename_i elem hd
        split at h
        · rename_i er her
          split at h
          · rename_i z hz
            split at h
            · rename_i hb
              obtain ⟨l, hl, e⟩ := Option.map_eq_some_iff.1 h
              cases e
              rw [Bool.and_eq_true] at hb
              have hb1 := Nat.le_of_ble_eq_true hb.1
              have hb2 := Nat.eq_of_beq_eq_true hb.2
              have hp := concs_allSome hρ hvs
              have hlen : vs.length = parts.toList.length := by have := concs_length hp; simpa using this.symm
              have hparts : ∀ (i : Nat) (p : Nat × AV), ((parts.toList.map (·.1)).zip vs)[i]? = some p → ∃ x, ((parts.map fun (i, x) => (i, ρ x)).toList)[i]? = some (p.1, x) ∧ Conc γ p.2 x := by
                intro i p hi
                rw [List.getElem?_zip_eq_some] at hi
                obtain ⟨h1, h2⟩ := hi
                obtain ⟨x, hx, hc⟩ := concs_get hp i p.2 h2
                refine ⟨x, ?_, hc⟩
                simp only [List.getElem?_map, Option.map_eq_some_iff, Array.toList_map] at h1 hx ⊢
                obtain ⟨q, hq, e⟩ := h1
                obtain ⟨q', ⟨q'', hq'', e''⟩, e'⟩ := hx
                rw [hq] at hq''
                cases hq''
                exact ⟨q, hq, by rw [← e, ← e', ← e'']⟩
              have hl2 : (parts.map fun (i, x) => (i, ρ x)).toList.length = ((parts.toList.map (·.1)).zip vs).length := by simp [hlen]
              have hzc : Concs γ (ofValue z).cells z.cells.toList := conc_cells (conc_ofValue γ z)
              have hzs : z.cells.size = er.info.size := by have := concs_length hzc; rw [hb2] at this; simpa using this
              have hrep := rep_ok z.cells er.info.size hzs len
              obtain ⟨out', ho, hc⟩ := fill_ok (fun i => some (i * er.info.size, er.info.size)) _ _ _ ((Array.range (len * er.info.size)).map (z.cells[· % z.cells.size]!)) _ hl2 hparts (by rw [hrep]; exact concs_rep hzc len) hl
              refine ⟨by simp, .cells out' elem, .slice (some ⟨w.heap.size, 0, none⟩) len len, out'.size, ?_, fun γ' id w' hx hg hw => ⟨obj_cells hx hc hw, hsl γ' id _ _ _ (Nat.le_refl _) hg⟩⟩
              simp only [execOp]
              refine run_v ?_
              unfold Instr.buildSlice
              have hsm : ¬ len * er.info.size > 2 ^ 24 := by omega
              simp only [Sem.run_bind, run_und hE hr w, hd, Result.andThen_ok, run_size hE her w, if_neg hsm]
              by_cases h0 : len * er.info.size = 0
              · have : (Array.range (len * er.info.size)).map (fun x => (#[] : Array Value)[x % (#[] : Array Value).size]!) = (Array.range (len * er.info.size)).map (z.cells[· % z.cells.size]!) := by
                  rw [h0]; simp
                rw [if_pos h0]
                simp only [Sem.run_pure, Result.andThen_ok, this, ho, Sem.run_bind, newRow, run_newObj]
              · rw [if_neg h0]
                simp only [Sem.run_bind, run_zero hE her w hz, Sem.run_pure, Result.andThen_ok, ho, newRow, run_newObj]
            · cases h
          · cases h
        · cases h
      · cases h
    · cases h
  case makeSlice ty l c =>
    split at h
    · rename_i r lv cv hr hlv hcv
      split at h
      · rename_i elem ln cn hd hln hcn
        split at h
        · rename_i er her
          split at h
          · rename_i z hz
            split at h
            · rename_i hb
              cases h
              simp only [Bool.and_eq_true] at hb
              obtain ⟨⟨⟨hb1, hb2⟩, hb3⟩, hb4⟩ := hb
              have hb1 := Nat.le_of_ble_eq_true hb1
              have hb2 := Nat.le_of_ble_eq_true hb2
              have hb3 := Nat.le_of_ble_eq_true hb3
              have hb4 := Nat.eq_of_beq_eq_true hb4
              obtain ⟨k1, hk1⟩ := natOf_some hln (hρ _ _ hlv)
              obtain ⟨k2, hk2⟩ := natOf_some hcn (hρ _ _ hcv)
              have hzc : Concs γ (ofValue z).cells z.cells.toList := conc_cells (conc_ofValue γ z)
              have hzs : z.cells.size = er.info.size := by have := concs_length hzc; rw [hb4] at this; simpa using this
              have hrep := rep_ok z.cells er.info.size hzs cn
              refine ⟨by simp, .cells ((Array.range (cn * er.info.size)).map (z.cells[· % z.cells.size]!)) elem, .slice (some ⟨w.heap.size, 0, none⟩) ln cn, _, ?_,
                fun γ' id w' hx hg hw => ⟨obj_cells hx (by rw [hrep]; exact concs_rep hzc cn) hw, hsl γ' id _ _ _ hb1 hg⟩⟩
              simp only [execOp]
              refine run_v ?_
              rw [hk1, hk2]
              unfold Instr.makeSlice
              have w1 : IntKind.i64.wrap (ln : Int) = ln := by
                unfold IntKind.wrap IntKind.bits IntKind.signed; simp; omega
              have w2 : IntKind.i64.wrap (cn : Int) = cn := by
                unfold IntKind.wrap IntKind.bits IntKind.signed; simp; omega
              have hbytes : ¬ ((er.info.bytes : Int) * (cn : Int) > 2 ^ 48) := by
                have := Nat.mul_le_mul hb3 hb2
                have h2 : ((er.info.bytes * cn : Nat) : Int) ≤ ((65536 * 65536 : Nat) : Int) := Int.ofNat_le.2 this
                rw [Int.natCast_mul] at h2
                omega
              have hif : ((decide ((cn : Int) < 0) || decide ((er.info.bytes : Int) * (cn : Int) > 2 ^ 48)) || decide ((ln : Int) < 0) || decide ((ln : Int) > (cn : Int))) = false := by
                simp only [Bool.or_eq_false_iff, decide_eq_false_iff_not]
                exact ⟨⟨⟨by omega, hbytes⟩, by omega⟩, by omega⟩
              simp only [Sem.run_bind, run_und hE hr w, hd, Result.andThen_ok, asInt, asIntOf, Sem.run_pure, run_info hE her w, w1, w2, hif, Bool.false_eq_true, if_false, run_askRoom, Int.toNat_natCast, run_size hE her w]
              by_cases h0 : cn * er.info.size = 0
              · have : (Array.range (cn * er.info.size)).map (fun x => (#[] : Array Value)[x % (#[] : Array Value).size]!) = (Array.range (cn * er.info.size)).map (z.cells[· % z.cells.size]!) := by
                  rw [h0]; simp
                rw [if_pos h0]
                simp only [Sem.run_pure, Result.andThen_ok, this, Sem.run_bind, newRow, run_newObj]
              · rw [if_neg h0]
                simp only [Sem.run_bind, run_zero hE her w hz, Sem.run_pure, Result.andThen_ok, newRow, run_newObj]
            · cases h
          · cases h
        · cases h
      · cases h
    · cases h
  case call c =>
    split at h
    · cases h
    · split at h
      · split at h
        · unfold fnCall at h
          split at h <;> cases h
        · cases h
      · unfold builtinA at h
        (repeat' split at h) <;> first | cases h | (obtain ⟨_, _, e⟩ := Option.map_eq_some_iff.1 h; cases e)
      · (repeat' split at h) <;> cases h
  case convert src dst x =>
    split at h
    · unfold convA at h
      (repeat' split at h) <;> first | cases h | (obtain ⟨_, _, e⟩ := Option.map_eq_some_iff.1 h; cases e)
    · cases h
  all_goals
    (repeat' split at h) <;> first | cases h | (obtain ⟨_, _, e⟩ := Option.map_eq_some_iff.1 h; cases e)
end
open Go.RowKit (Below) in
theorem RelL.grown {F : Frz} {γ : Gam} {σ : AS} {w w' : World} (h : RelL F γ σ w) (hb : Below w.heap.size w w') : RelL F γ σ w' := by
  refine ⟨⟨h.dom, fun o p hp => ?_, h.gone, h.inj, h.lim⟩, h.live, ⟨hb.os.trans h.frame.os, hb.tape.trans h.frame.tape, hb.output.trans h.frame.output, Nat.le_trans h.frame.size hb.size, h.frame.old, fun b hf => ?_, h.frame.own⟩⟩
  · obtain ⟨ob, h1, h2⟩ := h.obj o p hp
    exact ⟨ob, h1, h2.mono (.refl γ) (hb.block _ (h.lt hp))⟩
  · exact (hb.block b (Nat.lt_of_lt_of_le (h.frame.old b hf) h.frame.size)).trans (h.frame.block b hf)
def frz (w : World) (γ : Gam) : Frz := ⟨w, fun b => b < w.heap.size ∧ ∀ o p, γ o = some (some p) → p.block ≠ b⟩
theorem frame_start (w : World) (γ : Gam) : Frame (frz w γ) γ w :=
  ⟨rfl, rfl, rfl, Nat.le_refl _, fun _ h => h.1, fun _ _ => rfl, fun o p hp h => h.2 o p hp rfl⟩
def emp : Gam := fun _ => none
def σe : AS := ⟨.e, 0⟩
theorem rel_start (w : World) : RelL (frz w emp) emp σe w :=
  ⟨⟨fun _ _ => rfl, fun o p h => by simp [emp] at h, fun o h => by simp [emp] at h, fun o o' p p' h => by simp [emp] at h, Nat.zero_le _⟩, fun o p h => by simp [emp] at h, frame_start w emp⟩
open Go.RowKit (Below) in
theorem below_of {w w' : World} {γ : Gam} (h : Frame (frz w emp) γ w') : Below w.heap.size w w' :=
  ⟨h.os, h.tape, h.output, h.size, fun b hb => h.block b ⟨hb, fun o p hp => by simp [emp] at hp⟩⟩
end Go.Proofs.YtldjgpnbkbmgoaaGreatDoor.Ev

namespace Go.Proofs.YtldjgpnbkbmgoaaGreatDoor.Ev
theorem turn_row (w : World) (b : Nat) (cs : Array Value) : Turn b w (w.setRow b cs) :=
  ⟨rfl, rfl, rfl, by simp [World.setRow], fun c h => setRow_other w b c cs h⟩
theorem set_cells {P : Program} {γ : Gam} {w : World} {l vs : List AV} {elem : TypeId} {p : Place} {ys : List Value} {off : Nat} (h : ObjRel γ (.cells l elem) p w) (hl : off + vs.length ≤ l.length)
    (hv : Concs γ vs ys) (h1 : vs.all AV.one = true) :
    ∃ w', (storeCells ⟨p.block, p.base + off, none⟩ ys).run P w = .ok () w' ∧ ObjRel γ (.cells (setFrom l off vs) elem) p w' ∧ Turn p.block w w' := by
  obtain ⟨c, hb, ⟨hs, hfx⟩, hlen, hc⟩ := h
  have hyl := concs_length hv
  have hone : ∀ y ∈ ys, y.oneCell' = true := by
    intro y hy
    obtain ⟨i, hi, e⟩ := List.mem_iff_getElem.1 hy
    have hvi : i < vs.length := by omega
    obtain ⟨x, hx, hcx⟩ := concs_get hv i vs[i] (by simp [hvi])
    rw [List.getElem?_eq_getElem hi, e] at hx
    cases hx
    exact conc_one hcx (List.all_eq_true.1 h1 _ (List.getElem_mem hvi))
  have hrun := run_storeCells_at (P := P) p.block (p.base + off) elem ys 0 c w hb (by omega) hone
  refine ⟨_, hrun, ?_, turn_row w p.block _⟩
  rw [Nat.add_zero]
  have hto : (c.toList.take (p.base + off) ++ ys ++ c.toList.drop (p.base + off + ys.length)) = setFrom c.toList (p.base + off) ys := rfl
  rw [hto]
  have hcl : c.toList.length = c.size := by simp
  refine ⟨_, setRow_heap w p.block c _ elem _ hb, ?_, ?_, ?_⟩
  · simp only [List.size_toArray]
    rw [setFrom_length _ _ _ (by rw [hcl]; omega), hcl, hs]
    exact ⟨rfl, fun h => by rw [setFrom_length _ _ _ hl]; exact hfx h⟩
  · rw [setFrom_length _ _ _ hl]; exact hlen
  · intro i v hiv
    rw [setFrom_get _ _ _ _ hl] at hiv
    simp only [List.getElem?_toArray]
    rw [setFrom_get _ _ _ _ (by rw [hcl]; omega)]
    by_cases hin : off ≤ i ∧ i < off + vs.length
    · rw [if_pos hin] at hiv
      rw [if_pos (by omega)]
      obtain ⟨x, hx, hcx⟩ := concs_get hv _ v hiv
      exact ⟨x, by rw [show p.base + i - (p.base + off) = i - off by omega]; exact hx, hcx⟩
    · rw [if_neg hin] at hiv
      rw [if_neg (by omega)]
      obtain ⟨x, hx, hcx⟩ := hc i v hiv
      exact ⟨x, by simpa using hx, hcx⟩
theorem RelL.store {F : Frz} {P : Program} {γ : Gam} {σ : AS} {w : World} (h : RelL F γ σ w) {o off : Nat} {a : Addr} {l vs : List AV} {elem : TypeId} {ys : List Value} (hg : σ.heap.get o = some (.cells l elem)) (ha : atP γ o off a)
    (hl : off + vs.length ≤ l.length) (hv : Concs γ vs ys) (h1 : vs.all AV.one = true) :
    ∃ w', (storeCells a ys).run P w = .ok () w' ∧ RelL F γ { σ with heap := σ.heap.put o (.cells (setFrom l off vs) elem) } w' ∧ Step γ σ γ { σ with heap := σ.heap.put o (.cells (setFrom l off vs) elem) } := by
  obtain ⟨p, hp, hob⟩ := h.find hg (by simp) ha.ne
  obtain rfl := ha.at hp
  obtain ⟨w', h2, h3, h4⟩ := set_cells (P := P) hob hl hv h1
  exact ⟨w', h2, h.set hp (by simp) h3 h4, Step.set h _ hp⟩
theorem RelL.entries {F : Frz} {P : Program} {γ : Gam} {σ : AS} {w : World} (h : RelL F γ σ w) {o r : Nat} {es fs : List (AV × AV × Nat)} {clock clock' : Nat} (hg : σ.heap.get o = some (.map es clock)) (hr : mapP γ o r) :
    ∃ es' : Array MapEntry, w.heap[r]? = some (.map es' clock) ∧ EntRel γ es es'.toList ∧ ∀ fs' : Array MapEntry, EntRel γ fs fs'.toList →
      (Go.setObj r (.map fs' clock')).run P w = .ok () { w with heap := w.heap.setIfInBounds r (.map fs' clock') } ∧ RelL F γ { σ with heap := σ.heap.put o (.map fs clock') } { w with heap := w.heap.setIfInBounds r (.map fs' clock') } ∧
      Step γ σ γ { σ with heap := σ.heap.put o (.map fs clock') } := by
  obtain ⟨p, hp, es', hb, he⟩ := h.find hg (by simp) hr.ne
  obtain rfl := hr.at hp
  refine ⟨es', hb, he, fun fs' hf => ⟨?_, h.set hp (by simp) ⟨fs', ?_, hf⟩ ?_, Step.set h _ hp⟩⟩
  · simp [Go.setObj, Sem.run, hb]
  · have := (Array.getElem?_eq_some_iff.1 hb).1
    simp [this]
  · exact turn_set w p.block _
end Go.Proofs.YtldjgpnbkbmgoaaGreatDoor.Ev
namespace Go.Proofs.YtldjgpnbkbmgoaaGreatDoor.Ev
theorem findA_get {d : TypeDesc} {k : AV} : ∀ (es : List (AV × AV × Nat)) (i j : Nat) (v : AV), findA d k es i = some (some (j, v)) → i ≤ j ∧ ∃ k' b, es[j - i]? = some (k', v, b) ∧ keyEq d k k' = some true
  | [], i, j, v, h => by simp [findA] at h
  | (k', u, b) :: es, i, j, v, h => by
    simp only [findA] at h
    split at h
    · rename_i hk
      simp only [Option.some.injEq, Prod.mk.injEq] at h
      obtain ⟨rfl, rfl⟩ := h
      exact ⟨Nat.le_refl _, k', b, by simp, hk⟩
    · obtain ⟨h1, k2, b2, h2, h3⟩ := findA_get es (i + 1) j v h
      refine ⟨by omega, k2, b2, ?_, h3⟩
      rw [show j - i = (j - (i + 1)) + 1 by omega]
      simpa using h2
    · cases h
theorem bytes_eq {a b : ByteArray} (h : (a == b) = true) : a = b := by
  cases a; cases b
  simp only [BEq.beq] at h
  unfold ByteArray.beq at h
  simp at h
  rw [h]
theorem bytes_beq (a : ByteArray) : (a == a) = true := by
  cases a
  simp only [BEq.beq]
  unfold ByteArray.beq
  simp
theorem sameBits_symm_scalar {a b : Value} (h : scalarEq a b = some true) (n : Nat) : Instr.sameBits n b a = true := by
  unfold scalarEq at h
  split at h
  · simp only [Option.some.injEq, beq_iff_eq] at h; subst h; unfold Instr.sameBits; simp
  · split at h
    · rename_i hk
      simp only [Option.some.injEq, beq_iff_eq] at h; subst hk h; unfold Instr.sameBits; simp
    · cases h
  · rename_i a b
    simp only [Option.some.injEq, beq_iff_eq] at h
    have : a = b := by
      cases a; cases b
      congr 1
      exact Array.toList_inj.1 h
    subst this
    unfold Instr.sameBits
    exact bytes_beq a
  · cases h
theorem flat_bits : ∀ {xs ys : List Value} (_ : flatEq (xs.map .lit) (ys.map .lit) = some true) (n : Nat), ys.length = xs.length ∧ ((ys.zip xs).all fun (x, y) => Instr.sameBits n x y) = true
  | [], [], _, _ => by simp
  | [], _ :: _, h, _ => by simp [flatEq] at h
  | _ :: _, [], h, _ => by simp [flatEq] at h
  | x :: xs, y :: ys, h, n => by
    simp only [List.map_cons, flatEq] at h
    split at h
    · rename_i p q hp hq
      simp only [Option.some.injEq, Bool.and_eq_true] at h
      obtain ⟨rfl, rfl⟩ := h
      obtain ⟨h1, h2⟩ := flat_bits hq n
      exact ⟨by simp [h1], by simp only [List.zip_cons_cons, List.all_cons, Bool.and_eq_true]; exact ⟨sameBits_symm_scalar hp n, h2⟩⟩
    · cases h
theorem key_bits {γ : Gam} {d : TypeDesc} {a b : AV} {x y : Value} (h : keyEq d a b = some true) (hx : Conc γ a x) (hy : Conc γ b y) : Instr.sameBits 10000 y x = true := by
  have hmax : (10000 : Nat) = 9999 + 1 := rfl
  rw [hmax]
  generalize 9999 = n
  unfold keyEq at h
  split at h
  · rw [conc_lit_iff] at hx hy; subst hx hy
    split at h
    · rename_i hk; subst hk
      simp only [Option.some.injEq, beq_iff_eq] at h; subst h
      unfold Instr.sameBits; simp
    · cases h
  · rw [conc_lit_iff] at hx hy; subst hx hy
    simp only [Option.some.injEq] at h
    have h := bytes_eq h; subst h
    unfold Instr.sameBits; exact bytes_beq _
  · rw [conc_lit_iff] at hx hy; subst hx hy
    simp only [Option.some.injEq, beq_iff_eq] at h; subst h
    unfold Instr.sameBits; simp
  · obtain ⟨⟨xs, rfl⟩, ys, rfl⟩ := flatEq_lits h
    simp only [Conc] at hx hy
    obtain ⟨p, rfl, hp⟩ := hx
    obtain ⟨q, rfl, hq⟩ := hy
    have e1 := concs_lits_eq hp
    have e2 := concs_lits_eq hq
    obtain ⟨h1, h2⟩ := flat_bits h n
    unfold Instr.sameBits
    simp only [Bool.and_eq_true, beq_iff_eq]
    rw [e1, e2]
    exact ⟨by rw [← Array.length_toList, ← Array.length_toList, e1, e2]; exact h1, h2⟩
  · cases h
theorem entRel_setAt {γ : Gam} {k v : AV} {k' v' : Value} (hk : Conc γ k k') (hv : Conc γ v v') : ∀ {es : List (AV × AV × Nat)} {es' : List MapEntry} (i : Nat) {e : AV × AV × Nat}, EntRel γ es es' → es[i]? = some e →
    EntRel γ (setAt es i (k, v, e.2.2)) (es'.modify i fun e => { e with key := k', val := v' })
  | [], _, i, e, _, h => by simp at h
  | (k0, v0, b0) :: es, _, i, e, h, he => by
    simp only [EntRel] at h
    obtain ⟨k1, v1, rest, rfl, h1, h2, h⟩ := h
    cases i with
    | zero =>
      simp only [List.getElem?_cons_zero, Option.some.injEq] at he
      subst he
      simp only [setAt, EntRel, List.modify_zero_cons]
      exact ⟨k', v', rest, rfl, hk, hv, h⟩
    | succ i =>
      simp only [setAt, EntRel, List.modify_succ_cons]
      exact ⟨k1, v1, _, rfl, h1, h2, entRel_setAt hk hv i h (by simpa using he)⟩
theorem entRel_erase {γ : Gam} : ∀ {es : List (AV × AV × Nat)} {es' : List MapEntry} (i : Nat), EntRel γ es es' → EntRel γ (es.eraseIdx i) (es'.eraseIdx i)
  | [], _, i, h => by simp only [EntRel] at h; subst h; simp [EntRel]
  | (k0, v0, b0) :: es, _, i, h => by
    simp only [EntRel] at h
    obtain ⟨k1, v1, rest, rfl, h1, h2, h⟩ := h
    cases i with
    | zero => simpa using h
    | succ i => simp only [List.eraseIdx_cons_succ, EntRel]; exact ⟨k1, v1, _, rfl, h1, h2, entRel_erase i h⟩
theorem entRel_filter {γ : Gam} (p : Nat → Bool) : ∀ {es : List (AV × AV × Nat)} {es' : List MapEntry}, EntRel γ es es' → EntRel γ (es.filter fun e => p e.2.2) (es'.filter fun e => p e.born)
  | [], _, h => by simp only [EntRel] at h; subst h; simp [EntRel]
  | (k0, v0, b0) :: es, _, h => by
    simp only [EntRel] at h
    obtain ⟨k1, v1, rest, rfl, h1, h2, h⟩ := h
    simp only [List.filter_cons]
    cases hp : p b0 with
    | true => simp only [if_true, EntRel]; exact ⟨k1, v1, _, rfl, h1, h2, entRel_filter p h⟩
    | false => simpa using entRel_filter p h
theorem entRel_all {γ : Gam} (p : Nat → Bool) : ∀ {es : List (AV × AV × Nat)} {es' : List MapEntry}, EntRel γ es es' → (es'.all fun e => p e.born) = es.all fun e => p e.2.2
  | [], _, h => by simp only [EntRel] at h; subst h; simp
  | (k0, v0, b0) :: es, _, h => by
    simp only [EntRel] at h
    obtain ⟨k1, v1, rest, rfl, h1, h2, h⟩ := h
    simp only [List.all_cons, entRel_all p h]
section
variable {F : Frz} {P : Program} {E : Env} (hE : EnvOk P E) {γ : Gam} {σ : AS} {w : World} {t : Tmps} {ρ : Operand → Value}
include hE
theorem store_ok (hR : RelL F γ σ w) {ty : TypeId} {a v : AV} {σ' : AS} (h : storeA E σ ty a v = some σ') {a' v' : Value} (ha : Conc γ a a') (hv : Conc γ v v') :
    ∃ w', (Instr.storeAt ty a' v').run P w = .ok () w' ∧ RelL F γ σ' w' ∧ Step γ σ γ σ' := by
  unfold storeA at h
  split at h
  · rename_i o off r hr
    split at h
    · rename_i l elem hg
      split at h
      · rename_i hb
        simp only [Bool.and_eq_true] at hb
        obtain ⟨⟨hb1, hb2⟩, hb3⟩ := hb
        have hb1 := Nat.eq_of_beq_eq_true hb1
        have hb3 := Nat.le_of_ble_eq_true hb3
        simp only [Option.some.injEq] at h; subst h
        simp only [Conc] at ha
        obtain ⟨ad, rfl, hat⟩ := ha
        have hvc := conc_cells hv
        have hvl : v'.cells.size = v.cells.length := by simpa using concs_length hvc
        obtain ⟨w', h1, h2, h3⟩ := RelL.store (P := P) hR hg hat (by rw [hb1]; exact hb3) hvc hb2
        refine ⟨w', ?_, h2, h3⟩
        unfold Instr.storeAt storeVar
        have hne : ¬ (v'.cells.size ≠ r.info.size) := by omega
        simp only [Instr.sureAddr, Sem.run_bind, Sem.run_pure, Result.andThen_ok, run_size hE hr w, if_neg hne, h1]
      · cases h
    · cases h
  · cases h
theorem update_ok (hR : RelL F γ σ w) {ty : TypeId} {m k v : AV} {σ' : AS} (h : updateA E σ ty m k v = some σ') {m' k' v' : Value} (hm : Conc γ m m') (hk : Conc γ k k') (hv : Conc γ v v') :
    ∃ w', (Instr.mapUpdate ty m' k' v').run P w = .ok () w' ∧ RelL F γ σ' w' ∧ Step γ σ γ σ' := by
  unfold updateA at h
  cases hr : E.ty ty with
  | none => rw [hr] at h; cases h
  | some r =>
    rw [hr] at h
    simp only [] at h
    split at h
    · rename_i kt et o hd
      split at h
      · rename_i d es clock hkt hg
        simp only [Conc] at hm
        obtain ⟨b, rfl, hb⟩ := hm
        unfold Instr.mapUpdate
        simp only [Sem.run_bind, run_und hE hr w, Result.andThen_ok, hd]
        split at h
        · rename_i i u hf
          simp only [Option.some.injEq] at h; subst h
          obtain ⟨_, k0, b0, hi, hke⟩ := findA_get es 0 i u hf
          rw [Nat.sub_zero] at hi
          obtain ⟨es', hw, he, hset⟩ := RelL.entries (P := P) (fs := setAt es i (k, v, b0)) (clock' := clock) hR hg hb
          obtain ⟨r', h1, h2⟩ := findKey_ok hE (w := w) hkt hk he hf
          cases r' with
          | none => exact h2.elim
          | some r' =>
            obtain ⟨j, u'⟩ := r'
            obtain ⟨rfl, _⟩ := h2
            obtain ⟨k1, v1, hi', hk1, _⟩ := entRel_get he i _ hi
            have hi'' : es'[i]? = some ⟨k1, v1, b0⟩ := by simpa using hi'
            have hb' := key_bits hke hk hk1
            have hg1 : (getObj b).run P w = .ok (.map es' clock) w := by simp [getObj, Sem.run, hw]
            obtain ⟨s1, s2, s3⟩ := hset (es'.modify i fun e => { e with key := k', val := v' }) (by rw [Array.toList_modify]; exact entRel_setAt hk hv i he hi)
            have hbo : bornAt es i = b0 := by unfold bornAt; rw [hi]
            refine ⟨_, ?_, by rw [hbo]; exact s2, by rw [hbo]; exact s3⟩
            simp only [hg1, Sem.run_bind, Result.andThen_ok, checkKey_ok hE (w := w) hkt hk, h1, hi'', Option.map_some, Option.getD_some, Sem.run_bind, Instr.keyThatStays, hb', if_true, Sem.run_pure, s1]
        · rename_i hf
          simp only [Option.some.injEq] at h; subst h
          obtain ⟨es', hw, he, hset⟩ := RelL.entries (P := P) (fs := es ++ [(k, v, clock)]) (clock' := clock + 1) hR hg hb
          obtain ⟨r', h1, h2⟩ := findKey_ok hE (w := w) hkt hk he hf
          cases r' with
          | some r' => exact h2.elim
          | none =>
            have hg1 : (getObj b).run P w = .ok (.map es' clock) w := by simp [getObj, Sem.run, hw]
            obtain ⟨s1, s2, s3⟩ := hset (es'.push { key := k', val := v', born := clock }) (by rw [Array.toList_push]; exact entRel_append he (by simp only [EntRel]; exact ⟨k', v', [], rfl, hk, hv, rfl⟩))
            refine ⟨_, ?_, s2, s3⟩
            simp only [hg1, Sem.run_bind, Result.andThen_ok, checkKey_ok hE (w := w) hkt hk, h1, s1]
        · cases h
      · cases h
    · cases h
theorem delete_ok (hR : RelL F γ σ w) {ty : TypeId} {m k : AV} {σ' : AS} (h : deleteA E σ ty m k = some σ') {m' k' : Value} (hm : Conc γ m m') (hk : Conc γ k k') {ts : Array TypeId} {tt : TypeId} {ys : Array Value}
    (h0 : ts[0]? = some ty) (h1 : ys[0]? = some m') (h2 : ys[1]? = some k') :
    ∃ w', (Builtin.delete_ ts tt ys).run P w = .ok (.tuple #[]) w' ∧ RelL F γ σ' w' ∧ Step γ σ γ σ' := by
  unfold deleteA at h
  cases hr : E.ty ty with
  | none => rw [hr] at h; cases h
  | some r =>
    rw [hr] at h
    simp only [] at h
    split at h
    · rename_i kt et o hd
      split at h
      · rename_i d es clock hkt hg
        simp only [Conc] at hm
        obtain ⟨b, rfl, hb⟩ := hm
        unfold Builtin.delete_
        simp only [h0, h1, h2, Sem.run_bind, run_und hE hr w, Result.andThen_ok, hd]
        split at h
        · rename_i i u hf
          simp only [Option.some.injEq] at h; subst h
          obtain ⟨es', hw, he, hset⟩ := RelL.entries (P := P) (fs := es.eraseIdx i) (clock' := clock) hR hg hb
          obtain ⟨r', h1, h2⟩ := findKey_ok hE (w := w) hkt hk he hf
          cases r' with
          | none => exact h2.elim
          | some r' =>
            obtain ⟨j, u'⟩ := r'
            obtain ⟨rfl, _⟩ := h2
            have hg1 : (getObj b).run P w = .ok (.map es' clock) w := by simp [getObj, Sem.run, hw]
            obtain ⟨s1, s2, s3⟩ := hset (es'.eraseIdxIfInBounds i) (by
              have : (es'.eraseIdxIfInBounds i).toList = es'.toList.eraseIdx i := by simp
              rw [this]; exact entRel_erase i he)
            refine ⟨_, ?_, s2, s3⟩
            simp only [hg1, Sem.run_bind, Result.andThen_ok, checkKey_ok hE (w := w) hkt hk, h1, s1, Sem.run_pure]
        · rename_i hf
          simp only [Option.some.injEq] at h; subst h
          obtain ⟨es', hw, he, hset⟩ := RelL.entries (P := P) (fs := es) (clock' := clock) hR hg hb
          obtain ⟨r', h1, h2⟩ := findKey_ok hE (w := w) hkt hk he hf
          cases r' with
          | some r' => exact h2.elim
          | none =>
            have hg1 : (getObj b).run P w = .ok (.map es' clock) w := by simp [getObj, Sem.run, hw]
            obtain ⟨s1, s2, s3⟩ := hset es' he
            refine ⟨_, ?_, s2, s3⟩
            simp only [hg1, Sem.run_bind, Result.andThen_ok, checkKey_ok hE (w := w) hkt hk, h1, s1, Sem.run_pure]
        · cases h
      · cases h
    · cases h
end
end Go.Proofs.YtldjgpnbkbmgoaaGreatDoor.Ev

