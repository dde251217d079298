/-
  READING, in plain words: commands, entries.
-/
import Derived.Test.YthgiafjiemiifaaPaMath
namespace Go.Proofs.Ythgiafjiemiifaa
open OctMath
set_option linter.unusedVariables false
structure CmdT where
  kind : Int
  client : Nat
  seq : Nat
  key : List Nat
  size : Int
  sum : Nat
  version : Nat
  epoch : Nat
  group : Int
  node : Int
  up : Bool
  id : IdT
  mep : Nat
  mem : List (Int × Int)
def rCmd (bs : List Nat) : Rd CmdT := (rInt bs).bind fun x1 => (rNum bs).bind fun x2 => (rNum bs).bind fun x3 => (rText bs).bind fun x4 => (rInt bs).bind fun x5 => (rWord bs).bind fun x6 => (rNum bs).bind fun x7 => (rNum bs).bind fun x8 => (rInt bs).bind fun x9 => (rInt bs).bind fun x10 => (rFlag bs).bind fun x11 => (rId bs).bind fun x12 => (rMap bs).bind fun x13 => Rd.pure ⟨x1, x2, x3, x4, x5, x6, x7, x8, x9, x10, x11, x12, x13.1, x13.2⟩
structure EntT where
  index : Nat
  term : Nat
  kind : Int
  cmd : CmdT
  voters : List Int
  learners : List Int
def rEnt (bs : List Nat) : Rd EntT := (rNum bs).bind fun x1 => (rNum bs).bind fun x2 => (rInt bs).bind fun x3 => (rCmd bs).bind fun x4 => (rConf bs).bind fun x5 => Rd.pure ⟨x1, x2, x3, x4, x5.1, x5.2⟩
def I64 (x : Int) : Prop := -9223372036854775808 ≤ x ∧ x ≤ 9223372036854775807
structure CmdOk (c : CmdT) : Prop where
  kind : -9223372036854775808 ≤ c.kind ∧ c.kind ≤ 9223372036854775807
  client : c.client < 18446744073709551616
  seq : c.seq < 18446744073709551616
  key : (∀ y ∈ c.key, y < 256) ∧ c.key.length ≤ 1048576
  size : -9223372036854775808 ≤ c.size ∧ c.size ≤ 9223372036854775807
  sum : c.sum < 4294967296
  version : c.version < 18446744073709551616
  epoch : c.epoch < 18446744073709551616
  group : -9223372036854775808 ≤ c.group ∧ c.group ≤ 9223372036854775807
  node : -9223372036854775808 ≤ c.node ∧ c.node ≤ 9223372036854775807
  id : c.id.ver < 18446744073709551616 ∧ (-9223372036854775808 ≤ c.id.idx ∧ c.id.idx ≤ 9223372036854775807) ∧ c.id.ep < 18446744073709551616
  map : c.mep < 18446744073709551616 ∧ (∀ y ∈ c.mem, (-9223372036854775808 ≤ y.1 ∧ y.1 ≤ 9223372036854775807) ∧ (-9223372036854775808 ≤ y.2 ∧ y.2 ≤ 9223372036854775807)) ∧ c.mem.length ≤ 1048576
structure EntOk (e : EntT) : Prop where
  index : e.index < 18446744073709551616
  term : e.term < 18446744073709551616
  kind : -9223372036854775808 ≤ e.kind ∧ e.kind ≤ 9223372036854775807
  cmd : CmdOk e.cmd
  vot : (∀ y ∈ e.voters, -9223372036854775808 ≤ y ∧ y ≤ 9223372036854775807) ∧ e.voters.length ≤ 1048576
  lea : (∀ y ∈ e.learners, -9223372036854775808 ≤ y ∧ y ≤ 9223372036854775807) ∧ e.learners.length ≤ 1048576
end Go.Proofs.Ythgiafjiemiifaa
