/- Short names for given lemmas. Conditions: as each states. -/
import Derived.Lib.Hide
set_option linter.all false
namespace Go
theorem oM1{α β:Type}{x:Option α}{f:α->β}{b:β}:(x.map f=some b)↔∃a,x=some a/\f a=b:=Option.map_eq_some_iff
theorem lE1{α:Type}{l:List α}{i:Nat}{a:α}:l[i]?=some a↔∃h:i<l.length,l[i]=a:=List.getElem?_eq_some_iff
theorem nB1{a b:Nat}(h:Nat.ble a b=true):a<=b:=Nat.le_of_ble_eq_true h
theorem nQ1{a b:Nat}(h:Nat.beq a b=true):a=b:=Nat.eq_of_beq_eq_true h
theorem dT1{p:Prop}[Decidable p](h:decide p=true):p:=of_decide_eq_true h
theorem dF1{p:Prop}[Decidable p](h:decide p=false):¬p:=of_decide_eq_false h
