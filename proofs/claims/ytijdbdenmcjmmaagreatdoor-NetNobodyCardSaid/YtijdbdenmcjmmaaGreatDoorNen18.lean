/-
  THE PROGRAM'S WRITER: a sheet; its numbers, flags, texts; THE PROGRAM'S WRITER: numbers with a sign, flags, texts, rows of numbers. (printed by gen_pas2.py). (joined out of PaS1, PaS2 by shake.py)
-/
import Derived.Lib.AppendStr
import Derived.Test.YtijdbdenmcjmmaaGreatDoorNen06
import Derived.Test.YtijdbdenmcjmmaaGreatDoorNen07
import Derived.Test.YtijdbdenmcjmmaaGreatDoorNen14
import Derived.Test.YtijdbdenmcjmmaaGreatDoorNen12
import Derived.Test.YtijdbdenmcjmmaaGreatDoorNen08
section
namespace Go.Proofs.YtijdbdenmcjmmaaGreatDoor
open Go.RowKit OctMath
set_option linter.unusedVariables false
section
variable {P : Program} (w : World)
theorem run_append_text (base : Nat) (t u ty e : TypeId) (i : TypeInfo) (ht : P.underlying t = some (.slice e)) (hu : P.underlying u = some .string) (hi : P.info? e = some i) (hz : i.zero = some (.int .u8 0))
    (hsize : i.size = 1) (hby : i.bytes = 1) (v : Value) (n : Nat) (xs : List Value) (hown : w.ownsRow base e 1 v n xs) (s : ByteArray)
    (h63 : n + s.size ≤ maxLen) (hbytes : n + s.size ≤ 140737488355328) (hbase : base ≤ w.heap.size) :
    ∃ v' w', (Builtin.append_ #[t, u] ty #[v, .string s]).run P w = .ok v' w' ∧ w'.ownsRow base e 1 v' (n + s.size) (xs ++ Lib.strCells s) ∧ w.grownBy w' v.ownBlock ∧
      (v'.ownBlock = v.ownBlock ∨ v'.ownBlock = some w.heap.size) := by
  obtain ⟨v', w', hr, h1, h2, h3⟩ := Lib.run_append_own_string (P := P) w base t u ty e i ht hu hi hz hsize hby v n xs hown s h63 hbytes hbase
  refine ⟨v', w', hr, h1, h2, ?_⟩
  have hxl : xs.length = n := by simpa using hown.1
  have hm : n + s.size ≤ 9223372036854775807 := by unfold maxLen at h63; omega
  rcases hown.2 with ⟨rfl, rfl⟩ | ⟨g, cap, cur, rfl, hbg, hg, hnc, hcm, hcs, -⟩
  · by_cases h0 : s.size = 0
    · rw [h3.2 ⟨rfl, h0⟩]; exact .inl rfl
    · have hr2 := run_append_nil_string (P := P) w t u ty e i (.int .u8 0) ht hu hi hz s (by omega) (by omega) (by rw [hby]; omega)
      rw [hr] at hr2
      injection hr2 with a b
      rw [a]; exact .inr rfl
  · by_cases hroom : n + s.size ≤ cap
    · have hr2 := Lib.run_append_room_string (P := P) w t u ty e i ht hu hi hsize g n cap cur hg s hroom (by rw [hcs]; omega)
      rw [hr] at hr2
      injection hr2 with a b
      rw [a]; exact .inl rfl
    · have hr2 := Lib.run_append_grow_string (P := P) w t u ty e i (.int .u8 0) ht hu hi hz ⟨g, 0, none⟩ n cap xs (by rw [hsize]; simpa using hxl) (hown.cells (g := g) rfl) s (by omega) (by omega) (by rw [hby]; exact growslice_fits (by omega) (by omega))
      rw [hr] at hr2
      injection hr2 with a b
      rw [a]; exact .inr rfl
theorem wpList_append_text {ops : Array Oper} {rest : List Oper} {o : Oper} {a : Act} {Q : Exit → Act → World → Prop} (hgd : o.guard = none) (sl x : Operand) (t u : TypeId)
    (ho : o.op = .call { callee := .builtin .append, args := #[sl, x], argTypes := #[t, u] })
    (base : Nat) (e : TypeId) (i : TypeInfo) (ht : P.underlying t = some (.slice e)) (hu : P.underlying u = some .string) (hi : P.info? e = some i) (hz : i.zero = some (.int .u8 0))
    (hsize : i.size = 1) (hby : i.bytes = 1)
    (v : Value) (n : Nat) (xs : List Value) (hs : a.eval sl = v) (hown : w.ownsRow base e 1 v n xs) (s : ByteArray) (hx : a.eval x = .string s)
    (h63 : n + s.size ≤ maxLen) (hbytes : n + s.size ≤ 140737488355328) (hbase : base ≤ w.heap.size)
    (h : ∀ v' w', w'.ownsRow base e 1 v' (n + s.size) (xs ++ Lib.strCells s) → w.grownBy w' v.ownBlock → (v'.ownBlock = v.ownBlock ∨ v'.ownBlock = some w.heap.size) → wpList P ops Q rest (a.put o.dst v') w') : wpList P ops Q (o :: rest) a w := by
  refine wpList_plain hgd fun K hK => ?_
  obtain ⟨v', w', hr, h2, h3, h4⟩ := run_append_text (P := P) w base t u o.type e i ht hu hi hz hsize hby v n xs hown s h63 hbytes hbase
  unfold Oper.wp execOp
  simp only [ho, resolve, invoke, builtin, Sem.run_bind, Sem.run_pure, Result.andThen_ok, List.map_toArray, List.map_cons, List.map_nil, hs, hx, hr]
  exact hK _ _ (h v' w' h2 h3 h4)
end
theorem strCells_octs (s : ByteArray) : Lib.strCells s = (octs s).map bv := by
  unfold Lib.strCells octs bv
  simp
structure Sh (H : Nat → Prop) (g : Nat) (xs : List Nat) (w : World) : Prop where
  out : ∃ v, Blk w g 174 #[v] ∧ w.ownsRow 0 5 1 v xs.length (xs.map bv) ∧ v.ownBlock ≠ some g ∧ (∀ k, H k → v.ownBlock ≠ some k)
theorem Sh.lt {H : Nat → Prop} {g : Nat} {xs : List Nat} {w : World} (h : Sh H g xs w) : g < w.heap.size := by
  obtain ⟨v, hB, _⟩ := h.out
  exact hB.lt
theorem Sh.mono {H H' : Nat → Prop} {g : Nat} {xs : List Nat} {w : World} (h : Sh H g xs w) (hs : ∀ k, H' k → H k ∨ w.heap.size ≤ k) : Sh H' g xs w := by
  obtain ⟨v, hB, hO, hg, hh⟩ := h.out
  exact ⟨v, hB, hO, hg, fun k hk e => (hs k hk).elim (fun h => hh k h e) (fun h => by have := (hO.lt k e).2; omega)⟩
theorem Sh.later {H : Nat → Prop} {g : Nat} {xs : List Nat} {w w' : World} (h : Sh H g xs w) (hb : Below w.heap.size w w') : Sh H g xs w' := by
  obtain ⟨v, hB, hO, hg, hh⟩ := h.out
  exact ⟨v, hB.below hb hB.lt, hO.kept (row := none) ⟨hb.os, hb.tape, hb.output, hb.size, fun k hk _ => hb.block k hk⟩ (by cases h : v.ownBlock with | none => exact .inl rfl | some x => exact .inr (by simp)), hg, hh⟩
theorem Sh.only {H : Nat → Prop} {g k : Nat} {xs : List Nat} {w w' : World} (h : Sh H g xs w) (ho : Only k w w') (hk : H k) (hg' : k ≠ g) : Sh H g xs w' := by
  obtain ⟨v, hB, hO, hg, hh⟩ := h.out
  exact ⟨v, ho.blk hB (Ne.symm hg'), ho.own hO (hh k hk), hg, hh⟩
theorem Sh.alloc {H : Nat → Prop} {g : Nat} {xs : List Nat} {w : World} (h : Sh H g xs w) (o : Obj) : Sh H g xs (w.alloc o) := h.later ((Below.refl _ _).alloc (Nat.le_refl _) o)
def RetW (H : Nat → Prop) (g : Nat) (ys : List Nat) (w : World) (e : Ending) (w' : World) : Prop := e = .returned (.tuple #[]) ∧ Sh H g ys w' ∧ Keep H w w'
theorem Sh.grow {H : Nat → Prop} {g n : Nat} {xs ys : List Nat} {w wa w2 : World} {v v2 : Value} (hS : Safe H g w) (hB : Blk w g 174 #[v]) (hO : w.ownsRow 0 5 1 v xs.length (xs.map bv)) (hg : v.ownBlock ≠ some g) (hh : ∀ k, H k → v.ownBlock ≠ some k)
    (ha : Below w.heap.size w wa) (ho : w2.ownsRow 0 5 1 v2 n (xs.map bv ++ ys.map bv)) (hn : n = xs.length + ys.length) (hgr : wa.grownBy w2 v.ownBlock) (hv : v2.ownBlock = v.ownBlock ∨ v2.ownBlock = some wa.heap.size) :
    Blk w2 g 174 #[v] ∧ Sh H g (xs ++ ys) (w2.setCell ⟨g, 0, none⟩ v2) ∧ Keep H w (w2.setCell ⟨g, 0, none⟩ v2) := by
  have hB2 : Blk w2 g 174 #[v] := (hB.below ha hB.lt).grown hgr (fun e => hg e.symm)
  have hne : ∀ k, k < w.heap.size → v.ownBlock ≠ some k → v2.ownBlock ≠ some k := fun k hk hn e => by
    rcases hv with h | h
    · exact hn (h.symm.trans e)
    · rw [h] at e; injection e with e; have := ha.size; omega
  refine ⟨hB2, ⟨v2, by have := hB2.set_ 0 v2; simpa using this, ?_, hne g hB.lt hg, fun k hk => hne k (hS k hk).1 (hh k hk)⟩, ?_⟩
  · have := (Only.set_ w2 g 0 v2).own ho (hne g hB.lt hg)
    rw [List.length_append, List.map_append, ← hn]
    exact this
  · exact ((Keep.below ha).trans (Keep.grown hgr (fun k hk e => hh k hk e.symm))).trans (Keep.set_ H _ 0 v2 (fun hk => (hS g hk).2 rfl))
theorem RetW.mono {H H' : Nat → Prop} {g : Nat} {ys : List Nat} {w w' : World} {e : Ending} (h : RetW H g ys w e w') (hs : ∀ k, H' k → H k) : RetW H' g ys w e w' := ⟨h.1, h.2.1.mono (fun k hk => .inl (hs k hk)), h.2.2.mono hs⟩
theorem Safe.keep {H : Nat → Prop} {g : Nat} {w w' : World} (h : Safe H g w) (k : Keep H w w') : Safe H g w' := fun j hj => ⟨Nat.lt_of_lt_of_le (h j hj).1 k.size, (h j hj).2⟩
set_option maxRecDepth 100000 in
theorem or_all : ∀ x : Fin 256, x.val ||| 128 = x.val % 128 + 128 := by decide
theorem or_128 (m : Nat) : bits .or .u8 ((m % 256 : Nat) : Int) 128 = ((m % 128 + 128 : Nat) : Int) := by
  have h := or_all ⟨m % 256, Nat.mod_lt _ (by decide)⟩
  simp only at h
  rw [show m % 256 % 128 = m % 128 by omega] at h
  have e := u8_or_nat (m % 256) 128 (by omega) (by omega)
  rw [h] at e
  exact e
set_option maxRecDepth 100000 in
set_option maxHeartbeats 1000000 in
theorem sh_number (H : Nat → Prop) (g : Nat) (xs : List Nat) (n : Nat) (w : World) (hp : Hid (Sh H g xs w)) (hS : Hid (Safe H g w)) (hn : n < 18446744073709551616) (hl : xs.length ≤ 70000000000000) :
    Calls Tryz.prog 81 #[.pointer (some ⟨g, 0, none⟩), .int .u64 (n : Int)] w (RetW H g (xs ++ putN n) w) := by
  obtain ⟨ii, hi1, hi2, hi3, hi4⟩ := info_parts Tryz.infoU8
  have HII := Lh (And.intro hi1 (And.intro hi2 (And.intro hi3 hi4)))
  have HLEN := Lh (putN_len10 hn)
  clear hi1 hi2 hi3 hi4
  go_enter Tryz.func81, Tryz.ntmps81
  go_wp2
  go_loopw [1] (fun vn wr => ∃ (m : Nat) (ys : List Nat), vn = .int .u64 m ∧ m < 18446744073709551616 ∧ Hid (ys ++ putN m = xs ++ putN n) ∧ Hid (Sh H g ys wr) ∧ Hid (Keep H w wr)) (fun vn _ => (intOf vn).toNat)
  case atStart => exact ⟨n, xs, rfl, hn, Lh rfl, hp, Lh (Keep.refl _ _)⟩
  case round =>
    obtain ⟨m, ys, rfl, hm, hy, hs, hk⟩ := hrel
    have HYL := Lh (show ys.length + (putN m).length ≤ xs.length + 10 from by have := congrArg List.length hy.out; rw [List.length_append, List.length_append] at this; have := HLEN.out; omega)
    have HS := Lh (hS.out.keep hk.out)
    obtain ⟨pv, hB, hO, hg, hh⟩ := hs.out.out
    have z0 : wr.cell? ⟨g, 0, none⟩ = some pv := hB.cell 0
    have HB := Lh hB
    have HO := Lh hO
    have PG := Lh hg
    have HH := Lh hh
    clear hB hO hg hh
    by_cases hc : m < 128
    · have d1 : decide ((m : Int) > 127) = false := decide_eq_false (by omega)
      have d2 : decide (127 < m) = false := decide_eq_false (by omega)
      have d3 : decide ((127 : Int) < (m : Int)) = false := decide_eq_false (by omega)
      have HY2 := Lh (show ys ++ [m] = xs ++ putN n from by rw [← hy.out, putN_small hc])
      have e1 : (m : Int) % 256 = (m : Int) := by omega
      go_wp2_with (at_builtin
                   refine wpList_append_any _ rfl _ _ 33 rfl 0 5 ii _ 1 1 Tryz.underlying33 HII.out.1 HII.out.2.1 HII.out.2.2.1 HII.out.2.2.2 rfl (by decide) pv ys.length (ys.map bv) rfl (HO.out.alloc _) (wr.heap.size + 1) (some ⟨wr.heap.size, 0, none⟩) 1 1 [bv m] rfl (Reads.lit wr 5 [bv m] 1 1 rfl) (by intro u hu; rw [List.mem_singleton.1 hu]; rfl) (by have := HYL.out; have := putN_pos m; unfold maxLen; omega) (by have := HYL.out; have := putN_pos m; omega) (Nat.zero_le _) ?_
                   intro v2 w2 o2 g2 n2
                   obtain ⟨PA, pn, pc, rfl⟩ : ∃ PA pn pc, v2 = .slice PA pn pc := (by obtain ⟨x, y, e, _⟩ := own_slice o2; exact ⟨_, _, _, e⟩)
                   have HG := Lh (Sh.grow (ys := [m]) HS.out HB.out HO.out PG.out HH.out ((Below.refl _ _).alloc (Nat.le_refl _) _) o2 rfl g2 n2)
                   have z0 := HG.out.1.cell 0
                   have z1 := HG.out.1.frozen 0
                   clear o2 g2 n2)
      go_end0
      refine ⟨rfl, ?_, hk.out.trans HG.out.2.2⟩
      rw [← HY2.out]
      exact HG.out.2.1
    · have d1 : decide ((m : Int) > 127) = true := decide_eq_true (by omega)
      have d2 : decide (127 < m) = true := decide_eq_true (by omega)
      have d3 : decide ((127 : Int) < (m : Int)) = true := decide_eq_true (by omega)
      have e2 : bits .or .u8 ((m : Int) % 256) 128 = ((m % 128 + 128 : Nat) : Int) := by rw [show (m : Int) % 256 = ((m % 256 : Nat) : Int) from by omega]; exact or_128 m
      have HY2 := Lh (show (ys ++ [m % 128 + 128]) ++ putN (m / 128) = xs ++ putN n from by rw [← hy.out, putN_big hc]; simp)
      have hlt : m / 128 < m := by omega
      have HLT := Lh hlt
      clear hlt
      go_wp2_with (at_builtin
                   refine wpList_append_any _ rfl _ _ 33 rfl 0 5 ii _ 1 1 Tryz.underlying33 HII.out.1 HII.out.2.1 HII.out.2.2.1 HII.out.2.2.2 rfl (by decide) pv ys.length (ys.map bv) rfl (HO.out.alloc _) (wr.heap.size + 1) (some ⟨wr.heap.size, 0, none⟩) 1 1 [bv (m % 128 + 128)] rfl (Reads.lit wr 5 [bv (m % 128 + 128)] 1 1 rfl) (by intro u hu; rw [List.mem_singleton.1 hu]; rfl) (by have := HYL.out; have := putN_pos m; unfold maxLen; omega) (by have := HYL.out; have := putN_pos m; omega) (Nat.zero_le _) ?_
                   intro v2 w2 o2 g2 n2
                   obtain ⟨PA, pn, pc, rfl⟩ : ∃ PA pn pc, v2 = .slice PA pn pc := (by obtain ⟨x, y, e, _⟩ := own_slice o2; exact ⟨_, _, _, e⟩)
                   have HG := Lh (Sh.grow (ys := [m % 128 + 128]) HS.out HB.out HO.out PG.out HH.out ((Below.refl _ _).alloc (Nat.le_refl _) _) o2 rfl g2 n2)
                   have z0 := HG.out.1.cell 0
                   have z1 := HG.out.1.frozen 0
                   clear o2 g2 n2)
      have hlt := HLT.out
      refine ⟨⟨m / 128, ys ++ [m % 128 + 128], by go_num, by omega, HY2, Lh HG.out.2.1, Lh (hk.out.trans HG.out.2.2)⟩, by simp [intOf]; omega⟩
end Go.Proofs.YtijdbdenmcjmmaaGreatDoor
end
section
namespace Go.Proofs.YtijdbdenmcjmmaaGreatDoor
open Go.RowKit OctMath
set_option linter.unusedVariables false
theorem pInt_len {x : Int} (h : I64 x) : (pInt x).length ≤ 10 := putN_len10 (zz_lt h.1 h.2)
set_option maxRecDepth 100000 in
set_option maxHeartbeats 1000000 in
theorem sh_int (H : Nat → Prop) (g : Nat) (xs : List Nat) (n : Int) (w : World) (hp : Hid (Sh H g xs w)) (hS : Hid (Safe H g w)) (hn : I64 n) (hl : xs.length ≤ 70000000000000) :
    Calls Tryz.prog 82 #[.pointer (some ⟨g, 0, none⟩), .int .i64 n] w (RetW H g (xs ++ pInt n) w) := by
  obtain ⟨n1, n2⟩ := hn
  by_cases hs : 0 ≤ n
  · go_enter Tryz.func82, Tryz.ntmps82
    go_wp2_with fail
    rw [zzx_pos hs n2]
    refine (sh_number H g xs (zz n) w hp hS (zz_lt n1 n2) hl).mono ?_
    rintro e w1 ⟨rfl, h⟩
    have HH := Lh h
    clear h
    go_wp2
    go_end0
    exact ⟨rfl, HH.out⟩
  · go_enter Tryz.func82, Tryz.ntmps82
    go_wp2_with fail
    rw [zzx_neg n1 (by omega)]
    refine (sh_number H g xs (zz n) w hp hS (zz_lt n1 n2) hl).mono ?_
    rintro e w1 ⟨rfl, h⟩
    have HH := Lh h
    clear h
    go_wp2
    go_end0
    exact ⟨rfl, HH.out⟩
set_option maxRecDepth 100000 in
set_option maxHeartbeats 1000000 in
theorem sh_flag (H : Nat → Prop) (g : Nat) (xs : List Nat) (b : Bool) (w : World) (hp : Hid (Sh H g xs w)) (hS : Hid (Safe H g w)) (hl : xs.length ≤ 70000000000000) :
    Calls Tryz.prog 106 #[.pointer (some ⟨g, 0, none⟩), .bool b] w (RetW H g (xs ++ pFlag b) w) := by
  cases b with
  | true =>
    have HC := Lh (sh_number H g xs 1 w hp hS (by omega) hl)
    rw [putN_small (by omega)] at HC
    go_enter Tryz.func106, Tryz.ntmps106
    go_wp2_with (go_at_call 81; refine HC.out.mono ?_; rintro e w1 ⟨rfl, h⟩; have HH := Lh h; clear h)
    exact bodyPost_ret (results_none rfl _ _ _) rfl ⟨rfl, HH.out⟩
  | false =>
    have HC := Lh (sh_number H g xs 0 w hp hS (by omega) hl)
    rw [putN_small (by omega)] at HC
    go_enter Tryz.func106, Tryz.ntmps106
    go_wp2_with (go_at_call 81; refine HC.out.mono ?_; rintro e w1 ⟨rfl, h⟩; have HH := Lh h; clear h)
    go_end0
    exact ⟨rfl, HH.out⟩
set_option maxRecDepth 100000 in
set_option maxHeartbeats 1000000 in
theorem sh_text (H : Nat → Prop) (g : Nat) (xs : List Nat) (x : List Nat) (w : World) (hp : Hid (Sh H g xs w)) (hS : Hid (Safe H g w)) (hx : (∀ y ∈ x, y < 256) ∧ x.length ≤ 1048576) (hl : xs.length + 1048586 ≤ 70000000000000) :
    Calls Tryz.prog 105 #[.pointer (some ⟨g, 0, none⟩), .string (strOf x)] w (RetW H g (xs ++ pText x) w) := by
  obtain ⟨ii, hi1, hi2, hi3, hi4⟩ := info_parts Tryz.infoU8
  have HII := Lh (And.intro hi1 (And.intro hi2 (And.intro hi3 hi4)))
  clear hi1 hi2 hi3 hi4
  have hsz := strOf_size x
  have hoc := octs_strOf x hx.1
  obtain ⟨key, hkey⟩ : ∃ key, strOf x = key := ⟨_, rfl⟩
  rw [hkey] at hsz hoc ⊢
  have hx2 := hx.2
  have HSZ := Lh hsz
  have HOC := Lh hoc
  have e1 : IntKind.u64.wrap (key.size : Int) = (key.size : Int) := by rw [IntKind.wrap_u64]; omega
  have HC := Lh (sh_number H g xs key.size w hp hS (by omega) (by omega))
  rw [hsz] at HC e1
  have HL := Lh (show (xs ++ putN x.length).length + x.length ≤ 70000000000000 from by rw [List.length_append]; have := putN_len10 (n := x.length) (by omega); omega)
  clear hkey hoc hx
  obtain ⟨ks, hks⟩ : ∃ ks : Nat, x.length = ks := ⟨_, rfl⟩
  have HKS := Lh hks
  rw [hks] at HC e1 HL HSZ hsz hx2
  clear hks
  go_enter Tryz.func105, Tryz.ntmps105
  go_wp2_with fail
  refine HC.out.mono ?_
  rintro e w1 ⟨rfl, h1, h2⟩
  have HS1 := Lh (hS.out.keep h2)
  have HK1 := Lh h2
  obtain ⟨pv, hB, hO, hg, hh⟩ := h1.out
  have z0 : w1.cell? ⟨g, 0, none⟩ = some pv := hB.cell 0
  have HB := Lh hB
  have HO := Lh hO
  have PG := Lh hg
  have HH := Lh hh
  clear hB hO hg hh h1 h2 HC e1 hsz hx2
  go_wp2_with (at_builtin
               refine wpList_append_text _ rfl _ _ 33 9 rfl 0 5 ii Tryz.underlying33 Tryz.underlying9 HII.out.1 HII.out.2.1 HII.out.2.2.1 HII.out.2.2.2 pv (xs ++ putN ks).length ((xs ++ putN ks).map bv) rfl HO.out key rfl (by have := HL.out; have := HSZ.out; unfold maxLen; omega) (by have := HL.out; have := HSZ.out; omega) (Nat.zero_le _) ?_
               intro v2 w2 o2 g2 n2
               obtain ⟨PA, pn, pc, rfl⟩ : ∃ PA pn pc, v2 = .slice PA pn pc := (by obtain ⟨x, y, e, _⟩ := own_slice o2; exact ⟨_, _, _, e⟩)
               rw [strCells_octs, HOC.out] at o2
               have HG := Lh (Sh.grow (ys := x) HS1.out HB.out HO.out PG.out HH.out (Below.refl _ _) o2 (by rw [HSZ.out, HKS.out]) g2 n2)
               have z0 := HG.out.1.cell 0
               have z1 := HG.out.1.frozen 0
               clear o2 g2 n2)
  go_end0
  refine ⟨rfl, ?_, HK1.out.trans HG.out.2.2⟩
  have h := HG.out.2.1
  rw [List.append_assoc] at h
  unfold pText
  rw [HKS.out]
  exact h
theorem flat_take {α : Type} (put : α → List Nat) (l : List α) (z : α) (k : Nat) (h : k < l.length) : (l.take (k + 1)).flatMap put = (l.take k).flatMap put ++ put (l.getD k z) := by
  rw [List.take_succ_eq_append_getElem h, List.flatMap_append, List.getD_eq_getElem?_getD, List.getElem?_eq_getElem h]
  simp
theorem flat_len {α : Type} (put : α → List Nat) (c : Nat) : ∀ (l : List α), (∀ x ∈ l, (put x).length ≤ c) → (l.flatMap put).length ≤ c * l.length
  | [], _ => by simp
  | x :: l, h => by
    have h1 := h x (by simp)
    have h2 := flat_len put c l (fun y hy => h y (by simp [hy]))
    rw [List.flatMap_cons, List.length_append, List.length_cons, Nat.mul_succ]
    omega
theorem getD_in {α : Type} {P : α → Prop} {l : List α} (h : ∀ x ∈ l, P x) {k : Nat} (hk : k < l.length) (z : α) : P (l.getD k z) := by
  rw [List.getD_eq_getElem?_getD, List.getElem?_eq_getElem hk]
  exact h _ (List.getElem_mem hk)
set_option maxRecDepth 100000 in
set_option maxHeartbeats 2000000 in
theorem sh_ints (H : Nat → Prop) (g : Nat) (xs : List Nat) (A : Option Addr) (n cap : Nat) (l : List Int) (w : World) (hp : Hid (Sh H g xs w)) (hS : Hid (Safe H g w)) (hL : Hid (Reads w w.heap.size 1 A n (l.map iv))) (hH : Hid (0 < n → ∀ ad, A = some ad → H ad.block)) (hn : Hid (l.length = n)) (hn2 : n ≤ 1048576) (hI : Hid (∀ x ∈ l, I64 x)) (hl : xs.length + 10485770 ≤ 70000000000000) :
    Calls Tryz.prog 84 #[.pointer (some ⟨g, 0, none⟩), .slice A n cap, .func (.func 82) #[.pointer (some ⟨g, 0, none⟩)] #[]] w (RetW H g (xs ++ pList pInt l) w) := by
  have e1 : IntKind.u64.wrap (n : Int) = (n : Int) := by rw [IntKind.wrap_u64]; omega
  have HC := Lh (sh_number H g xs n w hp hS (by omega) (by omega))
  have HN10 := Lh (putN_len10 (n := n) (by omega))
  go_enter Tryz.func84, Tryz.ntmps84
  go_wp2_with fail
  refine HC.out.mono ?_
  rintro e w1 ⟨rfl, h1, h2⟩
  have HP1 := Lh h1
  have HK1 := Lh h2
  clear h1 h2 HC e1
  go_wp2
  go_loopw [7, 15] (fun vx vi wr => ∃ (k : Nat) (ys : List Nat), k ≤ n ∧ vi = .int .i64 k ∧ Hid (ys = xs ++ (putN n ++ (l.take k).flatMap pInt)) ∧ Hid (Sh H g ys wr) ∧ Hid (Keep H w wr)) (fun _ vi _ => n - (intOf vi).toNat)
  case atStart => exact ⟨0, xs ++ putN n, by omega, rfl, Lh (by simp), HP1, HK1⟩
  case round =>
    obtain ⟨k, ys, hk, rfl, hy, hs, hkp⟩ := hrel
    by_cases hlt : k < n
    · have d1 : decide (k < n) = true := decide_eq_true hlt
      have hkl : k < l.length := by have := hn.out; omega
      have hyl : ys.length ≤ xs.length + 10 + 10 * k := by
        have h1 := flat_len pInt 10 (l.take k) (fun x hx => pInt_len (hI.out x (List.mem_of_mem_take hx)))
        rw [List.length_take] at h1
        have h3 := HN10.out
        rw [hy.out, List.length_append, List.length_append]
        have : 10 * min k l.length ≤ 10 * k := Nat.mul_le_mul_left _ (Nat.min_le_left _ _)
        omega
      have hyb : ys.length + 10 ≤ 70000000000000 := by omega
      clear hyl
      have HY2 := Lh (show ys ++ pInt (l.getD k 0) = xs ++ (putN n ++ (l.take (k + 1)).flatMap pInt) from by rw [hy.out, flat_take pInt l 0 k hkl]; simp only [List.append_assoc])
      have hx := getD_in hI.out hkl 0
      have hr := hkp.out.reads hL.out hH.out
      obtain ⟨ad, hA, hbl, hc⟩ := hr.2 (by omega : 0 < n)
      subst hA
      have hck := hc k (iv (l.getD k 0)) (by rw [List.getElem?_map, List.getD_eq_getElem?_getD, List.getElem?_eq_getElem hkl]; rfl)
      obtain ⟨y, hy'⟩ : ∃ y, l.getD k 0 = y := ⟨_, rfl⟩
      rw [hy'] at hck hx HY2
      unfold iv at hck
      have HX := Lh hx
      clear hy' hc hbl hr hx
      go_wp2_with (first
        | (go_at_call 82; refine (sh_int H g ys y wr hs (Lh (hS.out.keep hkp.out)) HX.out (by omega)).mono ?_; rintro e w3 ⟨rfl, h3⟩; have HR := Lh h3; have HKA := Lh hkp.out; clear h3))
      exact ⟨⟨k + 1, _, by omega, by go_num, HY2, Lh HR.out.1, Lh (HKA.out.trans HR.out.2)⟩, by simp [intOf]; omega⟩
    · obtain rfl : k = n := by omega
      go_wp2
      go_end0
      refine ⟨rfl, ?_, hkp.out⟩
      unfold pList
      have h := hy.out
      rw [List.take_of_length_le (by rw [hn.out]; exact Nat.le_refl _)] at h
      rw [hn.out, ← h]
      exact hs.out
end Go.Proofs.YtijdbdenmcjmmaaGreatDoor
end
