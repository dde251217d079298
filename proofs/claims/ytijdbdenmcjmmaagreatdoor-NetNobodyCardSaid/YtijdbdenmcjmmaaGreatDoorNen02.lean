/-
  errors.As AT A REFUSAL, by its contract; number. (after the kit's worked text ToyasAs); PLAIN LAWS of the sum CRC-32C: one step a bit, linear over xor; by the table; a turned burst of at most 32 bit; The walks that put: put, PutNumber, PutInt, PutBytes, PutFlag, Word; and the reference's. (joined out of WirAs, OctMath, OctW3 by shake.py)
-/
import Derived.WalkKit
import Derived.LaidEql
import Derived.Stop.Asserts
import Derived.RowKitTokens
import Derived.Test.YtijdbdenmcjmmaaGreatDoorNen01
section
namespace Go.Proofs.YtijdbdenmcjmmaaGreatDoor
open Go.RowKit Go.Extern.Stop Go.Stop Go.Extern
set_option linter.unusedVariables false
set_option linter.unusedSimpArgs false
theorem Tryz.valueOfP (t : Addr) (w : World) : (ReflectliteValue.unpack (.iface 129 (.pointer (some t)))).run Tryz.prog w
    = .ok (.agg #[.pointer (some ⟨1, 129, none⟩), .pointer (some ⟨w.heap.size, 0, none⟩), .int .u64 150]) (w.alloc (.cells #[.pointer (some t)] 129)) := by kernel_rfl
theorem Tryz.typeP (a : Addr) (w : World) : (ReflectliteValue.methodAny (ReflectliteValue.valueError "reflectlite.Value.Type" 0) (fun t _ _ _ => ReflectliteType.toType t) #[.agg #[.pointer (some ⟨1, 129, none⟩), .pointer (some a), .int .u64 150]]).run Tryz.prog w
    = .ok (.iface 195 (.agg #[.pointer (some ⟨1, 129, none⟩)])) w := by kernel_rfl
theorem Tryz.kindP (w : World) : ((ReflectliteType.abiMethod fun t => (fun a : Nat => Value.int IntKind.u8 (a : Int)) <$> Rtype.kind t) #[.pointer (some ⟨1, 129, none⟩)]).run Tryz.prog w = .ok (.int .u8 22) w := by kernel_rfl
theorem Tryz.kindR (w : World) : ((ReflectliteType.abiMethod fun t => (fun a : Nat => Value.int IntKind.u8 (a : Int)) <$> Rtype.kind t) #[.pointer (some ⟨1, 94, none⟩)]).run Tryz.prog w = .ok (.int .u8 2) w := by kernel_rfl
theorem rlm (z : Sem Value) (f : TypeId → Addr → Nat → Nat → Sem Value) (v : Value) :
    ReflectliteValue.method z f #[v] = (do match ← ReflectliteValue.parts v with | none => z | some (t, a, fl) => f t a fl (fl % 32)) := rfl
theorem Tryz.partsP (a : Addr) (w : World) : (ReflectliteValue.parts (.agg #[.pointer (some ⟨1, 129, none⟩), .pointer (some a), .int .u64 150])).run Tryz.prog w = .ok (some (129, a, 150)) w := by kernel_rfl
theorem Tryz.isNilP (a p : Addr) (W : World) (ha : W.cell? a = some (.pointer (some p))) :
    (ReflectliteValue.method (ReflectliteValue.valueError "reflectlite.Value.IsNil" 0) ReflectliteValue.isNil #[.agg #[.pointer (some ⟨1, 129, none⟩), .pointer (some a), .int .u64 150]]).run Tryz.prog W = .ok (.bool false) W := by
  rw [rlm]
  simp only [Sem.run_bind, Tryz.partsP, Result.andThen]
  simp [ReflectliteValue.isNil, loadVar, isAgg, underlying, Tryz.underlying129, ha, Result.andThen]
theorem Tryz.elemP (w : World) : (ReflectliteType.method ReflectliteType.elem #[.agg #[.pointer (some ⟨1, 129, none⟩)]]).run Tryz.prog w = .ok (.iface 195 (.agg #[.pointer (some ⟨1, 94, none⟩)])) w := by kernel_rfl
theorem Tryz.implR (w : World) : (ReflectliteType.relation "Implements" ReflectliteType.implements_ #[.agg #[.pointer (some ⟨1, 94, none⟩)], .iface 195 (.agg #[.pointer (some ⟨1, 67, none⟩)])]).run Tryz.prog w = .ok (.bool true) w := by kernel_rfl
theorem Tryz.typeOfR (v : Value) (w : World) : (ReflectliteType.typeOf #[.iface 94 v]).run Tryz.prog w = .ok (.iface 195 (.agg #[.pointer (some ⟨1, 94, none⟩)])) w := by kernel_rfl
theorem Tryz.assignR (w : World) : (ReflectliteType.relation "AssignableTo" ReflectliteType.assignableTo #[.agg #[.pointer (some ⟨1, 94, none⟩)], .iface 195 (.agg #[.pointer (some ⟨1, 94, none⟩)])]).run Tryz.prog w = .ok (.bool true) w := by kernel_rfl
theorem Tryz.valueOfR (e : Int) (w : World) : (ReflectliteValue.unpack (.iface 94 (.int .i64 e))).run Tryz.prog w
    = .ok (.agg #[.pointer (some ⟨1, 94, none⟩), .pointer (some ⟨w.heap.size, 0, none⟩), .int .u64 130]) (w.alloc (.cells #[.int .i64 e] 94)) := by kernel_rfl
theorem Tryz.elemOfP (w : World) : (Rtype.elem? 129).run Tryz.prog w = .ok (some 94) w := by kernel_rfl
theorem Tryz.mkR (p : Addr) (w : World) : (ReflectliteValue.mk 94 p ReflectliteValue.flagAddr).run Tryz.prog w = .ok (.agg #[.pointer (some ⟨1, 94, none⟩), .pointer (some p), .int .u64 386]) w := by kernel_rfl
theorem Tryz.elemVP (a p : Addr) (W : World) (ha : W.cell? a = some (.pointer (some p))) :
    (ReflectliteValue.method (ReflectliteValue.valueError "reflectlite.Value.Elem" 0) ReflectliteValue.elem #[.agg #[.pointer (some ⟨1, 129, none⟩), .pointer (some a), .int .u64 150]]).run Tryz.prog W
      = .ok (.agg #[.pointer (some ⟨1, 94, none⟩), .pointer (some p), .int .u64 386]) W := by
  rw [rlm]
  simp only [Sem.run_bind, Tryz.partsP, Result.andThen]
  simp [ReflectliteValue.elem, loadVar, isAgg, underlying, Tryz.underlying129, ha, Result.andThen, Tryz.elemOfP, Tryz.mkR]
theorem rls (v x : Value) : ReflectliteValue.set #[v, x] = (do
    let (some (dst, a, fl), some (src, b, _)) := (← ReflectliteValue.parts v, ← ReflectliteValue.parts x)
      | unsupported (.noEntry "extern/(internal/reflectlite.Value).Set.zeroValue")
    if fl / ReflectliteValue.flagAddr % 2 == 0 then unsupported (.noEntry "extern/(internal/reflectlite.Value).Set.unaddressable")
    let val ← loadVar src b
    if ← Rtype.directlyAssignable dst src then storeVar dst a val
    else if ← Rtype.implements dst src then
      if (← Rtype.kind src) == 20 then
        match val with
        | .nilIface => unsupported (.noEntry "extern/reflectlite: a nil value of one interface type handed on as a value of another")
        | _ => storeVar dst a val
      else storeVar dst a (.iface src val)
    else panicString ("reflectlite.Set: value of type " ++ (← Rtype.spelt src) ++ " is not assignable to type " ++ (← Rtype.spelt dst))
    pure (.tuple #[])) := rfl
theorem Tryz.partsRa (a : Addr) (w : World) : (ReflectliteValue.parts (.agg #[.pointer (some ⟨1, 94, none⟩), .pointer (some a), .int .u64 386])).run Tryz.prog w = .ok (some (94, a, 386)) w := by kernel_rfl
theorem Tryz.partsR (a : Addr) (w : World) : (ReflectliteValue.parts (.agg #[.pointer (some ⟨1, 94, none⟩), .pointer (some a), .int .u64 130])).run Tryz.prog w = .ok (some (94, a, 130)) w := by kernel_rfl
theorem Tryz.directR (w : World) : (Rtype.directlyAssignable 94 94).run Tryz.prog w = .ok true w := by kernel_rfl
theorem Tryz.setR (ta b : Addr) (e : Int) (old : Value) (W : World) (hb : W.cell? b = some (.int .i64 e)) (ht : W.cell? ta = some old) (hf : W.frozen? ta = false) :
    (ReflectliteValue.set #[.agg #[.pointer (some ⟨1, 94, none⟩), .pointer (some ta), .int .u64 386], .agg #[.pointer (some ⟨1, 94, none⟩), .pointer (some b), .int .u64 130]]).run Tryz.prog W
      = .ok (.tuple #[]) (W.setCell ta (.int .i64 e)) := by
  rw [rls]
  simp only [Sem.run_bind, Tryz.partsRa, Tryz.partsR, Result.andThen]
  simp [ReflectliteValue.flagAddr, loadVar, isAgg, underlying, Tryz.underlying94, hb, Result.andThen, Tryz.directR, storeVar, Value.cells, storeCells, Addr.add]
  rw [run_store Tryz.prog W ta _ _ (by rfl)]
  simp [ht, hf]
/-! ### The walks -/
theorem Tryz.methodKind (h : Value) (w : World) : (Go.method 346 195 (.agg #[h]) "Kind").run Tryz.prog w = .ok (129, h) w := by kernel_rfl
theorem Tryz.methodElem (h : Value) (w : World) : (Go.method 346 195 (.agg #[h]) "Elem").run Tryz.prog w = .ok (140, .agg #[h]) w := by kernel_rfl
theorem Tryz.methodImplements (h : Value) (w : World) : (Go.method 346 195 (.agg #[h]) "Implements").run Tryz.prog w = .ok (141, .agg #[h]) w := by kernel_rfl
theorem Tryz.methodAssignableTo (h : Value) (w : World) : (Go.method 346 195 (.agg #[h]) "AssignableTo").run Tryz.prog w = .ok (138, .agg #[h]) w := by kernel_rfl
set_option maxRecDepth 100000 in
set_option maxHeartbeats 4000000 in
theorem as_in (e : Int) (t : Addr) (a : Addr) (old : Value) (w : World) (ha : w.cell? a = some (.pointer (some t))) (ht0 : w.cell? t = some old) (hf0 : w.frozen? t = false) :
    Calls Tryz.prog 80 #[.iface 94 (.int .i64 e), .iface 129 (.pointer (some t)), .agg #[.pointer (some ⟨1, 129, none⟩), .pointer (some a), .int .u64 150], .iface 195 (.agg #[.pointer (some ⟨1, 94, none⟩)])] w
      fun ev w' => ev = .returned (.bool true) ∧ ((w.alloc (.cells #[.pointer (some ⟨1, 129, none⟩), .pointer (some a), .int .u64 150] 164)).alloc (.cells #[.int .i64 e] 94)).setCell t (.int .i64 e) = w' := by
  have h10 := @run_callFunc_extern Tryz.prog 102 _ ReflectliteType.typeOf Tryz.func102 (by kernel_rfl) (by kernel_rfl) (by kernel_rfl) (by kernel_rfl)
  have h35 := @run_callFunc_extern Tryz.prog 138 _ (ReflectliteType.relation "AssignableTo" ReflectliteType.assignableTo) Tryz.func138 (by kernel_rfl) (by kernel_rfl) (by kernel_rfl) (by kernel_rfl)
  have h11 := @run_callFunc_extern Tryz.prog 103 _ (ReflectliteValue.method (ReflectliteValue.valueError "reflectlite.Value.Elem" 0) ReflectliteValue.elem) Tryz.func103 (by kernel_rfl) (by kernel_rfl) (by kernel_rfl) (by kernel_rfl)
  have h6 := @run_callFunc_extern Tryz.prog 77 _ (fun args => ReflectliteValue.unpack (args.getD 0 (.tuple #[]))) Tryz.func77 (by kernel_rfl) (by kernel_rfl) (by kernel_rfl) (by kernel_rfl)
  have h12 := @run_callFunc_extern Tryz.prog 104 _ ReflectliteValue.set Tryz.func104 (by kernel_rfl) (by kernel_rfl) (by kernel_rfl) (by kernel_rfl)
  have tO := Tryz.typeOfR
  have mA := Tryz.methodAssignableTo
  have aR := Tryz.assignR
  have vR := Tryz.valueOfR
  have hal : a.block < w.heap.size := World.block_lt_of_cell? _ _ ha
  have htl : t.block < w.heap.size := World.block_lt_of_cell? _ _ ht0
  have el := Tryz.elemVP a t (w.alloc (.cells #[.pointer (some ⟨1, 129, none⟩), .pointer (some a), .int .u64 150] 164)) (by rw [World.cell?_alloc_lt _ _ a hal]; exact ha)
  have st := Tryz.setR t ⟨w.heap.size + 1, 0, none⟩ e old ((w.alloc (.cells #[.pointer (some ⟨1, 129, none⟩), .pointer (some a), .int .u64 150] 164)).alloc (.cells #[.int .i64 e] 94))
    (by rw [World.cell?_alloc_at _ _ _ _ (by simp)]; rfl)
    (by rw [World.cell?_alloc_lt _ _ t (by simp; omega), World.cell?_alloc_lt _ _ t htl]; exact ht0)
    (by rw [World.frozen?_alloc_old _ _ t (by simp; omega), World.frozen?_alloc_old _ _ t (Nat.ne_of_lt htl)]; exact hf0)
  go_enter Tryz.func80, Tryz.ntmps80
  go_wp2
  refine wp_loop_rounds 1 ?_
  rw [rounds_succ]
  go_wp2
  go_ret
  exact ⟨rfl, rfl⟩
set_option maxRecDepth 100000 in
set_option maxHeartbeats 4000000 in
theorem as_hit (e : Int) (t : Addr) (old : Value) (w : World) (hg : w.cell? ⟨0, 0, none⟩ = some (.iface 195 (.agg #[.pointer (some ⟨1, 67, none⟩)]))) (ht0 : w.cell? t = some old) (hf0 : w.frozen? t = false) :
    Calls Tryz.prog 51 #[.iface 94 (.int .i64 e), .iface 129 (.pointer (some t))] w
      fun ev w' => ev = .returned (.bool true) ∧ ((((w.alloc (.cells #[.pointer (some t)] 129)).alloc (.cells #[.pointer (some ⟨1, 129, none⟩), .pointer (some ⟨w.heap.size, 0, none⟩), .int .u64 150] 164)).alloc (.cells #[.pointer (some ⟨1, 129, none⟩), .pointer (some ⟨w.heap.size, 0, none⟩), .int .u64 150] 164)).alloc (.cells #[.int .i64 e] 94)).setCell t (.int .i64 e) = w' := by
  have h6 := @run_callFunc_extern Tryz.prog 77 _ (fun args => ReflectliteValue.unpack (args.getD 0 (.tuple #[]))) Tryz.func77 (by kernel_rfl) (by kernel_rfl) (by kernel_rfl) (by kernel_rfl)
  have h7 := @run_callFunc_extern Tryz.prog 78 _ (ReflectliteValue.methodAny (ReflectliteValue.valueError "reflectlite.Value.Type" 0) (fun t _ _ _ => ReflectliteType.toType t)) Tryz.func78 (by kernel_rfl) (by kernel_rfl) (by kernel_rfl) (by kernel_rfl)
  have h8 := @run_callFunc_extern Tryz.prog 79 _ (ReflectliteValue.method (ReflectliteValue.valueError "reflectlite.Value.IsNil" 0) ReflectliteValue.isNil) Tryz.func79 (by kernel_rfl) (by kernel_rfl) (by kernel_rfl) (by kernel_rfl)
  have h27 := @run_callFunc_extern Tryz.prog 129 _ (ReflectliteType.abiMethod fun t => do pure (.int .u8 (← Rtype.kind t))) Tryz.func129 (by kernel_rfl) (by kernel_rfl) (by kernel_rfl) (by kernel_rfl)
  have h37 := @run_callFunc_extern Tryz.prog 140 _ (ReflectliteType.method ReflectliteType.elem) Tryz.func140 (by kernel_rfl) (by kernel_rfl) (by kernel_rfl) (by kernel_rfl)
  have h38 := @run_callFunc_extern Tryz.prog 141 _ (ReflectliteType.relation "Implements" ReflectliteType.implements_) Tryz.func141 (by kernel_rfl) (by kernel_rfl) (by kernel_rfl) (by kernel_rfl)
  have f6 := Tryz.valueOfP
  have f7 := Tryz.typeP
  have mK := Tryz.methodKind
  have mE := Tryz.methodElem
  have mI := Tryz.methodImplements
  have kP := Tryz.kindP
  have kR := Tryz.kindR
  have eP := Tryz.elemP
  have iR := Tryz.implR
  obtain ⟨w2, ew2⟩ : ∃ w2, (w.alloc (.cells #[.pointer (some t)] 129)).alloc (.cells #[.pointer (some ⟨1, 129, none⟩), .pointer (some ⟨w.heap.size, 0, none⟩), .int .u64 150] 164) = w2 := ⟨_, rfl⟩
  have hlt : 0 < w.heap.size := World.block_lt_of_cell? _ ⟨0, 0, none⟩ hg
  have htl : t.block < w.heap.size := World.block_lt_of_cell? _ _ ht0
  have n8 := Tryz.isNilP ⟨w.heap.size, 0, none⟩ t ((w.alloc (.cells #[.pointer (some t)] 129)).alloc (.cells #[.pointer (some ⟨1, 129, none⟩), .pointer (some ⟨w.heap.size, 0, none⟩), .int .u64 150] 164)) (by simp)
  have hg2 : ((w.alloc (.cells #[.pointer (some t)] 129)).alloc (.cells #[.pointer (some ⟨1, 129, none⟩), .pointer (some ⟨w.heap.size, 0, none⟩), .int .u64 150] 164)).cell? ⟨0, 0, none⟩ = some (.iface 195 (.agg #[.pointer (some ⟨1, 67, none⟩)])) := by
    rw [World.cell?_alloc_lt _ _ ⟨0, 0, none⟩ (by simp), World.cell?_alloc_lt _ _ ⟨0, 0, none⟩ hlt]; exact hg
  have hAs := as_in e t ⟨w.heap.size, 0, none⟩ old ((w.alloc (.cells #[.pointer (some t)] 129)).alloc (.cells #[.pointer (some ⟨1, 129, none⟩), .pointer (some ⟨w.heap.size, 0, none⟩), .int .u64 150] 164))
    (by rw [World.cell?_alloc_lt _ _ ⟨w.heap.size, 0, none⟩ (by simp)]; simp)
    (by rw [World.cell?_alloc_lt _ _ t (by simp; omega), World.cell?_alloc_lt _ _ t htl]; exact ht0)
    (by rw [World.frozen?_alloc_old _ _ t (by simp; omega), World.frozen?_alloc_old _ _ t (Nat.ne_of_lt htl)]; exact hf0)
  clear ew2
  have HAS := Lh hAs
  clear hAs
  go_enter Tryz.func51, Tryz.ntmps51
  go_wp2_with (go_at_call 80; refine HAS.out.mono ?_; rintro ev w' ⟨rfl, rfl⟩)
  go_ret
  exact ⟨rfl, rfl⟩
end Go.Proofs.YtijdbdenmcjmmaaGreatDoor
end
section
namespace Go.Proofs.YtijdbdenmcjmmaaGreatDoor.OctMath
def PL : Nat := 2197175160
def stp (c : Nat) : Nat := if c % 2 = 1 then c / 2 ^^^ PL else c / 2
theorem x4 (a b c d : Nat) : (a ^^^ b) ^^^ (c ^^^ d) = (a ^^^ c) ^^^ (b ^^^ d) := by
  rw [Nat.xor_assoc, Nat.xor_assoc, ← Nat.xor_assoc b c d, Nat.xor_comm b c, Nat.xor_assoc c b d]
/-! ### Numbers: seven bits a byte -/
def putN (n : Nat) : List Nat := if h : n < 128 then [n] else (n % 128 + 128) :: putN (n / 128)
termination_by n
decreasing_by omega
theorem putN_small {n : Nat} (h : n < 128) : putN n = [n] := by rw [putN, dif_pos h]
theorem putN_big {n : Nat} (h : ¬ n < 128) : putN n = (n % 128 + 128) :: putN (n / 128) := by rw [putN, dif_neg h]
theorem putN_byt (n : Nat) : ∀ x ∈ putN n, x < 256 := by
  induction n using Nat.strongRecOn with
  | _ n ih =>
    by_cases h : n < 128
    · rw [putN_small h]; intro x hx; simp at hx; omega
    · rw [putN_big h]
      intro x hx
      rcases List.mem_cons.1 hx with rfl | hx
      · omega
      · exact ih (n / 128) (by omega) x hx
theorem putN_len (k : Nat) : ∀ n, n < 128 ^ (k + 1) → (putN n).length ≤ k + 1 := by
  induction k with
  | zero => intro n h; rw [putN_small (by simpa using h)]; simp
  | succ k ih =>
    intro n h
    by_cases h1 : n < 128
    · rw [putN_small h1]; simp
    · rw [putN_big h1, List.length_cons]
      have := ih (n / 128) (by rw [Nat.pow_succ] at h; exact (Nat.div_lt_iff_lt_mul (by omega)).2 h)
      omega
theorem putN_pos (n : Nat) : 0 < (putN n).length := by
  by_cases h : n < 128
  · rw [putN_small h]; simp
  · rw [putN_big h]; simp
theorem putN_len10 {n : Nat} (h : n < 18446744073709551616) : (putN n).length ≤ 10 := putN_len 9 n (Nat.lt_of_lt_of_le h (by decide))
def zz (n : Int) : Nat := if 0 ≤ n then (2 * n).toNat else (-2 * n - 1).toNat
def rdF : List Nat → Nat → Nat → Nat × Nat × Nat
  | [], _, _ => (0, 0, 40)
  | c :: cs, i, acc =>
    if (i = 9 ∧ 1 < c) ∨ (0 < i ∧ c = 0) then (0, 0, 41)
    else if c < 128 then (acc + c % 128 * 128 ^ i, i + 1, 0)
    else rdF cs (i + 1) (acc + c % 128 * 128 ^ i)
def rdN (bs : List Nat) (at_ : Int) : Nat × Int × Nat :=
  if at_ < 0 ∨ (bs.length : Int) < at_ then (0, 0, 2)
  else
    let r := rdF (bs.drop at_.toNat) 0 0
    if r.2.2 = 0 then (r.1, at_ + r.2.1, 0) else (0, 0, r.2.2)
def unz (n : Nat) : Int := if n % 2 = 0 then (n / 2 : Nat) else -((n / 2 : Nat) : Int) - 1
def rdB (bs : List Nat) (at_ most : Int) : List Nat × Int × Nat :=
  let r := rdN bs at_
  if r.2.2 ≠ 0 then ([], 0, r.2.2)
  else if most < 0 ∨ most < r.1 ∨ (bs.length : Int) - r.2.1 < r.1 then ([], 0, 40)
  else ((bs.drop r.2.1.toNat).take r.1, r.2.1 + r.1, 0)
theorem rdF_lt (cs : List Nat) : ∀ i acc, i ≤ 9 → acc < 128 ^ i → (∀ x ∈ cs, x < 256) → (rdF cs i acc).1 < 18446744073709551616 ∧ (rdF cs i acc).2.1 ≤ i + cs.length := by
  induction cs with
  | nil => intro i acc _ _ _; simp [rdF]
  | cons c cs ih =>
    intro i acc hi ha hx
    rw [rdF]
    by_cases hbad : (i = 9 ∧ 1 < c) ∨ (0 < i ∧ c = 0)
    · rw [if_pos hbad]; simp
    · rw [if_neg hbad]
      have hd : c % 128 < 128 := by omega
      have hm : c % 128 * 128 ^ i ≤ 127 * 128 ^ i := Nat.mul_le_mul_right _ (by omega)
      have hp : (128 : Nat) ^ (i + 1) = 128 ^ i * 128 := Nat.pow_succ ..
      by_cases hlo : c < 128
      · rw [if_pos hlo]
        constructor
        · show acc + c % 128 * 128 ^ i < _
          rcases Nat.lt_or_ge i 9 with h | h
          · have h1 : 128 ^ i ≤ 128 ^ 8 := Nat.pow_le_pow_right (by omega) (by omega)
            have h4 : (128 : Nat) ^ 8 = 72057594037927936 := by decide
            omega
          · obtain rfl : i = 9 := by omega
            have h4 : (128 : Nat) ^ 9 = 9223372036854775808 := by decide
            have h2 : c % 128 * 128 ^ 9 ≤ 1 * 128 ^ 9 := Nat.mul_le_mul_right _ (by omega)
            omega
        · show i + 1 ≤ _
          rw [List.length_cons]; omega
      · rw [if_neg hlo]
        have h9 : i < 9 := by
          rcases Nat.lt_or_ge i 9 with h | h
          · exact h
          · exact absurd (.inl ⟨by omega, by omega⟩) hbad
        have := ih (i + 1) (acc + c % 128 * 128 ^ i) (by omega) (by omega) (fun y hy => hx y (List.mem_cons_of_mem _ hy))
        rw [List.length_cons]
        exact ⟨this.1, by omega⟩
theorem rdN_lt (bs : List Nat) (at_ : Int) (h : ∀ x ∈ bs, x < 256) : (rdN bs at_).1 < 18446744073709551616 ∧ 0 ≤ (rdN bs at_).2.1 ∧ (rdN bs at_).2.1 ≤ bs.length := by
  unfold rdN
  split
  · exact ⟨by simp, by simp, by simp⟩
  · rename_i hb
    have h1 := rdF_lt (bs.drop at_.toNat) 0 0 (by omega) (by decide) (fun x hx => h x (List.mem_of_mem_drop hx))
    rw [List.length_drop] at h1
    simp only
    split
    · exact ⟨h1.1, by simp; omega, by simp; omega⟩
    · exact ⟨by simp, by simp, by simp⟩
end Go.Proofs.YtijdbdenmcjmmaaGreatDoor.OctMath
end
section
namespace Go.Proofs.YtijdbdenmcjmmaaGreatDoor
open Go.RowKit OctMath
set_option linter.unusedVariables false
theorem Tryz.infoU8 : (Tryz.prog.info? 5).map (fun i => (i.zero, i.size, i.bytes)) = some (some (.int .u8 0), 1, 1) := by kernel_rfl
theorem make0 (c : Nat) (hc : c ≤ 281474976710656) (w : World) : (Instr.makeSlice 33 (.int .i64 0) (.int .i64 (c : Int))).run Tryz.prog w = .ok (.slice (some ⟨w.heap.size, 0, none⟩) 0 c) (w.alloc (.cells (madeCells #[.int .u8 0] c) 5)) := by
  obtain ⟨i, hi, h2, h3, h4⟩ := info_parts Tryz.infoU8
  have h := run_make (P := Tryz.prog) w 33 5 i (.int .u8 0) Tryz.underlying33 hi h2 .i64 .i64 0 c (by omega) (by omega) (by rw [h4]; omega) (by omega)
  simpa [h3, Value.cells] using h
set_option maxRecDepth 100000 in
set_option maxHeartbeats 1000000 in
theorem put_any (A B : Option Addr) (cap cap' n m : Nat) (xs ys : List Value) (w : World) (hr : Reads w w.heap.size 1 A n xs) (hr' : Reads w w.heap.size 1 B m ys) (h1 : ∀ u ∈ xs, u.oneCell' = true) (h2 : ∀ u ∈ ys, u.oneCell' = true) (hm : n + m ≤ 140737488355320) :
    Calls Tryz.prog 52 #[.slice A n cap, .slice B m cap'] w (RetS 5 (xs ++ ys) w) := by
  have hmk : ∀ W : World, (Instr.makeSlice 33 (.int .i64 0) (.int .i64 ((n : Int) + (m : Int) + 8))).run Tryz.prog W = .ok (.slice (some ⟨W.heap.size, 0, none⟩) 0 (n + m + 8)) (W.alloc (.cells (madeCells #[.int .u8 0] (n + m + 8)) 5)) := fun W => by
    have := make0 (n + m + 8) (by omega) W
    rw [show ((n + m + 8 : Nat) : Int) = (n : Int) + (m : Int) + 8 from by omega] at this
    exact this
  have hn : xs.length = n := by simpa using hr.1
  have hn' : ys.length = m := by simpa using hr'.1
  have HR := Lh hr
  have HR' := Lh hr'
  clear hr hr'
  go_enter Tryz.func52, Tryz.ntmps52
  go_wp2_with (first
    | (at_builtin
       refine wpl_append rfl (.tmp 11) (.tmp 12) _ rfl w w.heap.size 5 _ 1 1 Tryz.underlying33 Tryz.infoU8 rfl (by decide) (.slice (some ⟨w.heap.size, 0, none⟩) 0 (n + m + 8)) 0 [] rfl ?own (w.heap.size + 1) A n cap xs rfl ?rd h1 (by omega) (by decide) ?bel ?base ?_
       case own => exact World.ownsRow_made w _ _ (Nat.le_refl _) (by unfold maxLen; omega) (by rw [size_madeCells, Nat.mul_one])
       case rd => exact (HR.out.alloc (Nat.le_refl _) _).more (by simp)
       case bel => exact (Below.refl _ _).alloc (Nat.le_refl _) _
       case base => simp
       intro v1 w1 hh1)
    | (at_builtin
       refine wpl_append rfl (.tmp 13) (.tmp 14) _ rfl w w.heap.size 5 _ 1 1 Tryz.underlying33 Tryz.infoU8 rfl (by decide) v1 (0 + n) ([] ++ xs) rfl ?own w.heap.size B m cap' ys rfl ?rd h2 (by omega) (by decide) ?bel ?base ?_
       case own => exact hh1.out.1
       case rd => exact HR'.out.below hh1.out.2.1
       case bel => exact hh1.out.2.1
       case base => exact hh1.out.2.2
       intro v2 w2 hh2))
  go_ret
  refine ⟨v2, rfl, ?_, hh2.out.2.1⟩
  have h := hh2.out.1
  rw [show (xs ++ ys).length = 0 + n + m from by simp; omega]
  simpa using h
def numF (pre : List Nat) : Nat → Value := fun j => if j < pre.length then bv (pre.getD j 0) else bv 0
theorem numF_step (pre : List Nat) (d j : Nat) : (if j = pre.length then bv d else numF pre j) = numF (pre ++ [d]) j := by
  unfold numF
  by_cases e : j = pre.length
  · subst e; rw [if_pos rfl, if_pos (by simp)]; simp
  · rw [if_neg e]
    by_cases h : j < pre.length
    · rw [if_pos h, if_pos (by simp; omega)]; congr 1
      rw [List.getD_eq_getElem?_getD, List.getD_eq_getElem?_getD, List.getElem?_append_left h]
    · rw [if_neg h, if_neg (by simp; omega)]
theorem numF_all (pre : List Nat) : (List.range pre.length).map (numF pre) = pre.map bv := by
  apply List.ext_getElem?
  intro j
  by_cases hj : j < pre.length
  · rw [List.getElem?_map, List.getElem?_range hj, List.getElem?_map, List.getElem?_eq_getElem hj]
    simp [numF, hj, List.getD]
  · rw [List.getElem?_eq_none (by simp; omega), List.getElem?_eq_none (by simp; omega)]
theorem reads_rowIs {w : World} {g : Nat} {t : TypeId} {N n : Nat} {f : Nat → Value} (h : w.rowIs g t N f) (hn : n ≤ N) : Reads w w.heap.size 1 (some ⟨g, 0, none⟩) n ((List.range n).map f) := by
  refine ⟨by simp, fun _ => ⟨_, rfl, h.lt, fun j u hu => ?_⟩⟩
  have hj : j < n := by
    have := (List.getElem?_eq_some_iff.1 hu).1
    simpa using this
  rw [show (⟨g, 0, none⟩ : Addr).add j = ⟨g, j, none⟩ from by unfold Addr.add; split <;> simp_all]
  rw [h.cell (i := j) (by omega), ← hu, List.getElem?_map, List.getElem?_range hj]; rfl
theorem or128_ck : ((List.range 256).all fun x => Nat.beq (x ||| 128) (x % 128 + 128)) = true := by decide +kernel
theorem or128 (m : Nat) : bits .or .u8 ((m : Int) % 256) 128 = ((m % 128 + 128 : Nat) : Int) := by
  have h := u8_or_nat (m % 256) 128 (by omega) (by omega)
  have h2 := List.all_eq_true.1 or128_ck (m % 256) (List.mem_range.2 (by omega))
  rw [Nat.eq_of_beq_eq_true h2, show m % 256 % 128 = m % 128 from by omega] at h
  exact h
theorem slice10 (g k : Nat) (hk : k < 10) (W : World) : (Instr.sliceAt 130 (.pointer (some ⟨g, 0, none⟩)) none (some (.int .i64 ((k : Int) + 1))) none).run Tryz.prog W = .ok (.slice (some ⟨g, 0, none⟩) (k + 1) 10) W := by
  obtain ⟨i, hi, h2, h3, h4⟩ := info_parts Tryz.infoU8
  have e : 0 ≤ (k : Int) + 1 ∧ (k : Int) + 1 ≤ 10 := by omega
  have e2 : ((k : Int) + 1).toNat = k + 1 := by omega
  simp [Instr.sliceAt, run_underlying Tryz.underlying130, Instr.sliceBounds, Instr.sliceBound, asIntOf, Instr.sureAddr, sizeOf, typeInfo, hi, e, e2, Addr.add]
theorem own_baseO {w : World} {base base' : Nat} {e : TypeId} {size n : Nat} {v : Value} {xs : List Value} (h : w.ownsRow base e size v n xs) (hb : base' ≤ base) : w.ownsRow base' e size v n xs := by
  obtain ⟨h0, h1⟩ := h
  refine ⟨h0, ?_⟩
  rcases h1 with h1 | ⟨g, cap, cur, h2, h3, h4⟩
  · exact .inl h1
  · exact .inr ⟨g, cap, cur, h2, Nat.le_trans hb h3, h4⟩
def NumRel (w : World) (n : Nat) (k m : Nat) (wr : World) : Prop :=
  ∃ pre : List Nat, pre.length = k ∧ putN n = pre ++ putN m ∧ wr.rowIs w.heap.size 130 10 (numF pre) ∧ Below w.heap.size w wr
theorem zero10 (w : World) : (zeroValue 130).run Tryz.prog w = .ok (.agg (Array.replicate 10 (.int .u8 0))) w := by kernel_rfl
set_option maxRecDepth 100000 in
set_option maxHeartbeats 1000000 in
theorem putnum_any (A : Option Addr) (cap l n : Nat) (xs : List Value) (w : World) (hr : Reads w w.heap.size 1 A l xs) (h1 : ∀ u ∈ xs, u.oneCell' = true) (hn : n < 18446744073709551616) (hm : l ≤ 140737488351232) :
    Calls Tryz.prog 33 #[.slice A l cap, .int .u64 n] w (RetS 5 (xs ++ (putN n).map bv) w) := by
  have hz := zero10
  have HR := Lh hr
  clear hr
  have h10 := putN_len10 hn
  go_enter Tryz.func33, Tryz.ntmps33
  go_wp2
  clear hz
  have hst : NumRel w n 0 n (w.alloc (.cells (Array.replicate 10 (.int .u8 0)) 130)) := by
    refine ⟨[], rfl, rfl, ?_, (Below.refl _ _).alloc (Nat.le_refl _) _⟩
    have := World.rowIs_alloc w (Array.replicate 10 (.int .u8 0)) 130 (numF []) (fun i hi => by
      have : i < 10 := by simpa using hi
      rw [Array.getElem?_replicate, if_pos this]; rfl)
    simpa using this
  go_loopw [1, 6] (fun vn vk wr => ∃ k m : Nat, m ≤ n ∧ vn = .int .u64 m ∧ vk = .int .i64 k ∧ NumRel w n k m wr) (fun vn _ _ => (intOf vn).toNat)
  case atStart => exact ⟨0, n, Nat.le_refl _, rfl, rfl, hst⟩
  case round =>
    clear hst
    obtain ⟨k, m, hmn, rfl, rfl, pre, hpl, hpn, hR, hB⟩ := hrel
    have hlen : k + (putN m).length ≤ 10 := by rw [hpn, List.length_append, hpl] at h10; exact h10
    have hpos := putN_pos m
    have hRow := Lh hR
    have f4 := hR.cell (i := k) (by omega)
    have f5 := hR.frozen k
    clear hR
    by_cases hb : m < 128
    · have hs := Lh (putN_small hb)
      have HP := Lh hpn
      have HL := Lh hpl
      have hb2 : (m : Int) % 256 = m := by omega
      have hsl := slice10 w.heap.size k (by omega)
      clear hpn hpl h10
      go_wp2_with fail
      have hset : (wr.setCell ⟨w.heap.size, k, none⟩ (.int .u8 (m : Nat))).rowIs w.heap.size 130 10 (numF (pre ++ [m])) :=
        (hRow.out.set k (bv m)).congr fun j _ => by
          have := numF_step pre m j
          rw [HL.out] at this
          exact this
      have hrd := reads_rowIs hset (n := k + 1) (by omega)
      have e1 : (pre ++ [m]).length = k + 1 := by simp [HL.out]
      rw [← e1, numF_all, e1] at hrd
      have hB2 : Below w.heap.size w (wr.setCell ⟨w.heap.size, k, none⟩ (.int .u8 (m : Nat))) := hB.setCell (by simp) _
      refine (put_any A (some ⟨w.heap.size, 0, none⟩) cap 10 l (k + 1) xs ((pre ++ [m]).map bv) _ ((HR.out.below hB2).more hB2.size) hrd h1 (bv_one _) (by omega)).mono ?_
      rintro e w2 ⟨v, rfl, ho, hb3⟩
      go_wp2
      go_ret
      have e3 : putN n = pre ++ [m] := by rw [HP.out, hs.out]
      refine ⟨v, rfl, ?_, hB2.trans (hb3.mono hB2.size)⟩
      rw [e3]
      exact own_baseO ho hB2.size
    · have hs := Lh (putN_big hb)
      have h2 : 0 < (putN (m / 128)).length := putN_pos _
      have hl2 : (putN m).length = (putN (m / 128)).length + 1 := by rw [hs.out]; rfl
      have HP := Lh hpn
      have HL := Lh hpl
      have x1 := or128 m
      have hk9 : k < 10 := by omega
      clear hpn hpl h10 hl2
      go_wp2
      have hset : (wr.setCell ⟨w.heap.size, k, none⟩ (.int .u8 (m % 128 + 128 : Nat))).rowIs w.heap.size 130 10 (numF (pre ++ [m % 128 + 128])) :=
        (hRow.out.set k (bv (m % 128 + 128))).congr fun j _ => by
          have := numF_step pre (m % 128 + 128) j
          rw [HL.out] at this
          exact this
      exact ⟨⟨k + 1, m / 128, by omega, by simp, by go_num, pre ++ [m % 128 + 128], by simp [HL.out], by rw [HP.out, hs.out]; simp, hset, hB.setCell (by simp) _⟩, by simp [intOf]; omega⟩
set_option maxRecDepth 100000 in
set_option maxHeartbeats 1000000 in
theorem putbytes_any (A B : Option Addr) (cap cap' l m : Nat) (xs ys : List Value) (w : World) (hr : Reads w w.heap.size 1 A l xs) (h1 : ∀ u ∈ xs, u.oneCell' = true) (hr' : Reads w w.heap.size 1 B m ys) (h2 : ∀ u ∈ ys, u.oneCell' = true) (hm : l + (putN m).length + m ≤ 140737488351232) :
    Calls Tryz.prog 38 #[.slice A l cap, .slice B m cap'] w (RetS 5 (xs ++ (putN m).map bv ++ ys) w) := by
  have HR := Lh hr
  have HR' := Lh hr'
  have hl : xs.length = l := by simpa using hr.1
  have hl' : ys.length = m := by simpa using hr'.1
  have h10 := putN_len10 (n := m) (by omega)
  clear hr hr'
  go_enter Tryz.func38, Tryz.ntmps38
  go_wp2_with fail
  refine (putnum_any A cap l m xs _ HR.out h1 (by omega) (by omega)).mono ?_
  rintro e w1 ⟨v, rfl, ho, hb⟩
  have HO := Lh ho
  clear ho
  go_wp2_with (at_builtin
               refine wpl_append rfl (.tmp 9) (.tmp 10) _ rfl w w.heap.size 5 _ 1 1 Tryz.underlying33 Tryz.infoU8 rfl (by decide) v (xs ++ (putN m).map bv).length (xs ++ (putN m).map bv) rfl ?own w.heap.size B m cap' ys rfl ?rd h2 ?byt (by decide) ?bel ?base ?_
               case own => exact HO.out
               case rd => exact HR'.out.below hb
               case byt => rw [List.length_append, List.length_map]; omega
               case bel => exact hb
               case base => exact hb.size
               intro v2 w2 hh)
  go_ret
  refine ⟨v2, rfl, ?_, hh.out.2.1⟩
  have h := hh.out.1
  rw [show (xs ++ (putN m).map bv ++ ys).length = (xs ++ (putN m).map bv).length + m from by rw [List.length_append, hl']]
  exact h
set_option maxRecDepth 100000 in
set_option maxHeartbeats 1000000 in
theorem putflag_any (f : Bool) (A : Option Addr) (cap l : Nat) (xs : List Value) (w : World) (hr : Reads w w.heap.size 1 A l xs) (h1 : ∀ u ∈ xs, u.oneCell' = true) (hm : l ≤ 140737488351232) :
    Calls Tryz.prog 34 #[.slice A l cap, .bool f] w (RetS 5 (xs ++ [bv f.toNat]) w) := by
  have HR := Lh hr
  clear hr
  rcases f with _ | _
  all_goals
    go_enter Tryz.func34, Tryz.ntmps34
    go_wp2_with fail
  · refine (put_any A (some ⟨w.heap.size, 0, none⟩) cap 1 l 1 xs [bv 0] _ ((HR.out.alloc (Nat.le_refl _) _).more (by simp)) ((Reads.lit1 w 5 (bv 0)).more (by simp)) h1 (bv_one [0]) (by omega)).mono ?_
    rintro e w2 ⟨v, rfl, ho, hb⟩
    go_wp2
    go_ret
    exact ⟨v, rfl, own_baseO ho (by simp), ((Below.refl _ _).alloc (Nat.le_refl _) _).trans (hb.mono (by simp))⟩
  · refine (put_any A (some ⟨w.heap.size, 0, none⟩) cap 1 l 1 xs [bv 1] _ ((HR.out.alloc (Nat.le_refl _) _).more (by simp)) ((Reads.lit1 w 5 (bv 1)).more (by simp)) h1 (bv_one [1]) (by omega)).mono ?_
    rintro e w2 ⟨v, rfl, ho, hb⟩
    go_wp2
    go_ret
    exact ⟨v, rfl, own_baseO ho (by simp), ((Below.refl _ _).alloc (Nat.le_refl _) _).trans (hb.mono (by simp))⟩
theorem zz_pos {n : Int} (h : 0 ≤ n) (h2 : n ≤ 9223372036854775807) : ((zz n : Nat) : Int) = 2 * n := by unfold zz; rw [if_pos h]; omega
theorem zz_neg {n : Int} (h : n < 0) : ((zz n : Nat) : Int) = -2 * n - 1 := by unfold zz; rw [if_neg (by omega)]; omega
theorem zz_lt {n : Int} (h1 : -9223372036854775808 ≤ n) (h2 : n ≤ 9223372036854775807) : zz n < 18446744073709551616 := by
  unfold zz; split <;> omega
theorem zzx_pos {n : Int} (h : 0 ≤ n) (h2 : n ≤ 9223372036854775807) : bits .xor .u64 (n * 2) (n / 9223372036854775808) = ((zz n : Nat) : Int) := by
  have h3 := zz_pos h h2
  have h4 := u64_xor_nat (zz n) 0 (by omega) (by omega)
  rw [Nat.xor_zero, h3] at h4
  rw [show n / 9223372036854775808 = 0 from by omega, show n * 2 = 2 * n from by omega, h3]
  exact h4
theorem xor_ones (a : Nat) (h : a < 18446744073709551616) : a ^^^ 18446744073709551615 = 18446744073709551615 - a := by
  have h1 := congrArg BitVec.toNat (BitVec.xor_allOnes (x := BitVec.ofNat 64 a))
  rw [BitVec.toNat_xor, BitVec.toNat_not, BitVec.toNat_ofNat, BitVec.toNat_allOnes] at h1
  have h2 : a % 2 ^ 64 = a := Nat.mod_eq_of_lt h
  rw [h2] at h1
  exact h1
theorem zzx_neg {n : Int} (h1 : -9223372036854775808 ≤ n) (h2 : n < 0) : bits .xor .u64 (IntKind.u64.wrap (IntKind.u64.wrap n * 2)) (IntKind.u64.wrap (n / 9223372036854775808)) = ((zz n : Nat) : Int) := by
  have e1 : IntKind.u64.wrap n = n + 18446744073709551616 := by rw [IntKind.wrap_u64]; omega
  have e2 : IntKind.u64.wrap ((n + 18446744073709551616) * 2) = 2 * n + 18446744073709551616 := by rw [IntKind.wrap_u64]; omega
  have e3 : IntKind.u64.wrap (n / 9223372036854775808) = 18446744073709551615 := by
    rw [show n / 9223372036854775808 = -1 from by omega, IntKind.wrap_u64]; omega
  have h3 := zz_neg h2
  obtain ⟨a, ha⟩ : ∃ a : Nat, 2 * n + 18446744073709551616 = (a : Int) := ⟨(2 * n + 18446744073709551616).toNat, by omega⟩
  have h4 := u64_xor_nat a 18446744073709551615 (by omega) (by omega)
  rw [xor_ones a (by omega)] at h4
  rw [e1, e2, e3, ha]
  refine h4.trans ?_
  omega
set_option maxRecDepth 100000 in
set_option maxHeartbeats 1000000 in
theorem putint_any (A : Option Addr) (cap l : Nat) (n : Int) (xs : List Value) (w : World) (hr : Reads w w.heap.size 1 A l xs) (h1 : ∀ u ∈ xs, u.oneCell' = true) (n1 : -9223372036854775808 ≤ n) (n2 : n ≤ 9223372036854775807) (hm : l ≤ 140737488351232) :
    Calls Tryz.prog 32 #[.slice A l cap, .int .i64 n] w (RetS 5 (xs ++ (putN (zz n)).map bv) w) := by
  have HR := Lh hr
  clear hr
  by_cases hs : 0 ≤ n
  · go_enter Tryz.func32, Tryz.ntmps32
    go_wp2_with fail
    rw [zzx_pos hs n2]
    refine (putnum_any A cap l (zz n) xs _ HR.out h1 (zz_lt n1 n2) hm).mono ?_
    rintro e w2 h
    obtain ⟨v, rfl, h3⟩ := h
    go_wp2
    go_ret
    exact ⟨v, rfl, h3⟩
  · go_enter Tryz.func32, Tryz.ntmps32
    go_wp2_with fail
    rw [zzx_neg n1 (by omega)]
    refine (putnum_any A cap l (zz n) xs _ HR.out h1 (zz_lt n1 n2) hm).mono ?_
    rintro e w2 h
    obtain ⟨v, rfl, h3⟩ := h
    go_wp2
    go_ret
    exact ⟨v, rfl, h3⟩
end Go.Proofs.YtijdbdenmcjmmaaGreatDoor
end
