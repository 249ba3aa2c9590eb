/-
  Machines and asynchronous states: what is valid, which acts are possible: the plain law, with no program in sight. No condition.
-/
import Derived.Test.YtcpbbjocaimocaaGreatESpecA
namespace Go.Proofs.YtcpbbjocaimocaaGreat
set_option linter.all false
abbrev Cl := Int × List Int × Int
structure Mach where
  deg : Int
  st : Int
  msg : Int
  start : List (List Int)
  send : List (List Int)
  cls : List Cl
  out : List Int
def rowP (l : List Int) (many most : Int) : Prop := (l.length : Int) = many ∧ ∀ x ∈ l, 0 ≤ x ∧ x ≤ most - 1
def clP (m : Mach) (c : Cl) : Prop := (0 ≤ c.1 ∧ c.1 ≤ m.st - 1) ∧ (0 ≤ c.2.2 ∧ c.2.2 ≤ m.st - 1) ∧ (c.2.1.length : Int) ≤ m.deg ∧ ∀ x ∈ c.2.1, -1 ≤ x ∧ x ≤ m.msg - 1
def first (m : Mach) : Int := (m.start.getD 0 []).length
def maP (m : Mach) : Prop :=
  ((0 ≤ m.deg ∧ m.deg ≤ 6) ∧ (1 ≤ m.st ∧ m.st ≤ 12) ∧ (1 ≤ m.msg ∧ m.msg ≤ 6)) ∧ ((m.start.length : Int) = m.deg + 1 ∧ (m.send.length : Int) = m.st ∧ (m.out.length : Int) = m.st ∧ m.cls.length ≤ 60) ∧
  (1 ≤ first m ∧ first m ≤ 10) ∧ (∀ l ∈ m.start, rowP l (first m) m.st) ∧ (∀ l ∈ m.send, rowP l m.deg m.msg) ∧ (∀ c ∈ m.cls, clP m c) ∧ ∀ x ∈ m.out, -1 ≤ x ∧ x ≤ 9
def onP (m : Mach) (n : Net) : Prop := (∀ l ∈ n.es, (l.length : Int) ≤ m.deg) ∧ ∀ x ∈ n.ins, x < first m
def fitP (m : Mach) (n : Net) : Prop := maP m ∧ netP n ∧ onP m n
noncomputable def maB (m : Mach) : Bool := propB (maP m)
noncomputable def fitB (m : Mach) (n : Net) : Bool := propB (fitP m n)
structure Asy where
  rounds : List Int
  before : List Int
  now : List Int
  slots : List (List Int)
  flight : List (List Ends)
def letP (m : Mach) (ls : Ends) : Prop := ls.length ≤ 12 ∧ ∀ e ∈ ls, (0 ≤ e.1 ∧ e.1 ≤ 40) ∧ 0 ≤ e.2 ∧ e.2 ≤ m.msg - 1
def slotP (m : Mach) (ports : Nat) (s : List Int) (f : List Ends) : Prop := s.length = ports ∧ f.length = ports ∧ (∀ y ∈ s, -1 ≤ y ∧ y ≤ m.msg - 1) ∧ ∀ ls ∈ f, letP m ls
def asyP (m : Mach) (n : Net) (x : Asy) : Prop :=
  rowP x.rounds n.es.length 41 ∧ rowP x.before n.es.length m.st ∧ rowP x.now n.es.length m.st ∧ x.slots.length = n.es.length ∧ x.flight.length = n.es.length ∧
  ∀ (v : Nat) (l : Ends) (s : List Int) (f : List Ends), n.es[v]? = some l → x.slots[v]? = some s → x.flight[v]? = some f → slotP m l.length s f
def goodP (m : Mach) (n : Net) (x : Asy) : Prop := fitP m n ∧ asyP m n x
noncomputable def goodB (m : Mach) (n : Net) (x : Asy) : Bool := propB (goodP m n x)
structure Acts where
  kind : Int
  node : Int
  port : Int
  at_ : Int
def hereL (x : Asy) (v p : Int) : Ends := (x.flight.getD v.toNat []).getD p.toNat []
def mayP (n : Net) (x : Asy) (a : Acts) : Prop :=
  (0 ≤ a.node ∧ a.node < n.es.length) ∧
  ((a.kind = 5 ∧ a.port = 0 ∧ a.at_ = 0 ∧ x.rounds.getD a.node.toNat 0 < 40 ∧ (-1 : Int) ∉ x.slots.getD a.node.toNat []) ∨
   (a.kind ≠ 5 ∧ (0 ≤ a.port ∧ a.port < (n.es.getD a.node.toNat []).length) ∧
    ((a.kind = 1 ∧ (0 ≤ a.at_ ∧ a.at_ ≤ 1) ∧ a.at_ ≤ x.rounds.getD a.node.toNat 0 ∧ (hereL x (((n.es.getD a.node.toNat []).getD a.port.toNat (0, 0)).1) (((n.es.getD a.node.toNat []).getD a.port.toNat (0, 0)).2)).length < 12) ∨
     ((a.kind = 2 ∨ a.kind = 3) ∧ 0 ≤ a.at_ ∧ a.at_ < (hereL x a.node a.port).length) ∨
     (a.kind = 4 ∧ (0 ≤ a.at_ ∧ a.at_ < (hereL x a.node a.port).length) ∧ (hereL x a.node a.port).length < 12))))
noncomputable def mayB (n : Net) (x : Asy) (a : Acts) : Bool := propB (mayP n x a)
end Go.Proofs.YtcpbbjocaimocaaGreat
