/-
  MESSAGES THAT COME IN, with the second form's bound. (printed by gen_wiri1.py); What the row's list gives: package errors' variable; a world that meets it. (after the kit's worked text Toyas. (joined out of WirI1, WirLaid by shake.py)
-/
import Derived.Deep.Slices
import Derived.Deep.Fields
import Derived.ChangeSame
import Derived.Lib.SmallJoins
import Derived.Test.YtlnneacgllhdhaaGreatDoorCards
import Derived.Test.YtlnneacgllhdhaaGreatDoorTie
import Derived.ProofKit
import Derived.OpenShut
import Derived.Deep.DeepHandedRow
import Derived.LaidLaws
import Derived.LaidHandle
import Derived.Stop.Joined
import Derived.Test.YtlnneacgllhdhaaGreatDoorWpv26
import Derived.Test.YtlnneacgllhdhaaGreatDoorWpv04
import Derived.Test.YtlnneacgllhdhaaGreatDoorWpv43
section
namespace Go.Proofs.YtlnneacgllhdhaaGreatDoor
open Go.RowKit OctMath
open Go.ChangeShapes Go.WideShapes Go.Deep
set_option linter.unusedVariables false
set_option linter.unusedSimpArgs false
section
variable {H : Type} {enc : TypeId × Value → H} {w : World} {base : Nat} {sp : Nat → Bool} {held : Bool}
theorem bulk_pos (d : DataW H) : 1 ≤ Rows.uptoBulk d := by
  cases d with
  | lit l => cases l <;> simp [Rows.uptoBulk]
  | _ => simp [Rows.uptoBulk]
theorem bulk_len : ∀ l : List (DataW H), l.length ≤ Rows.uptoBulkAll l
  | [] => by simp [Rows.uptoBulkAll]
  | d :: l => by have := bulk_len l; have := bulk_pos d; simp only [Rows.uptoBulkAll, List.length_cons]; omega
theorem bulk_mem {d : DataW H} : ∀ {l : List (DataW H)}, d ∈ l → Rows.uptoBulk d ≤ Rows.uptoBulkAll l
  | x :: l, h => by
    simp only [Rows.uptoBulkAll]
    rcases List.mem_cons.1 h with rfl | h
    · omega
    · have := bulk_mem h; omega
theorem trod_fldb {P : Program} {T : TypeId} {fs : Array Field} {fuel : Nat} {cs : List Value} {x : DataW H × List MemPlace} (hu : P.underlying T = some (.struct fs)) (h : DataW.trod enc P w base sp held fuel T cs = some x) (hsz : Rows.uptoBulk x.1 ≤ 1048576) :
    cs.length = P.cellsOf T ∧ ∃ n, ∀ (i o k : Nat) (t : TypeId), (fs[i]?.map fun f => (f.type, f.offset)) = some (t, o) → P.cellsOf t = k → ∃ y, DataW.trod enc P w base sp held n t ((cs.drop o).take k) = some y ∧ Rows.uptoBulk y.1 ≤ 1048576 := by
  obtain ⟨xs, n, rfl, hx, hlen, hxl, hf⟩ := DataW.trod_struct hu h
  rw [hx] at hsz
  simp only [Rows.uptoBulk] at hsz
  refine ⟨hlen, n, fun i o k t hi hc => ?_⟩
  obtain ⟨F, hF, e⟩ := Option.map_eq_some_iff.1 hi
  injection e with e1 e2
  have hil : i < xs.length := by rw [hxl]; exact (Array.getElem?_eq_some_iff.1 hF).1
  have h1 := hf i F hF
  rw [e1, e2, hc, List.getElem?_eq_getElem hil] at h1
  exact ⟨_, h1, Nat.le_trans (bulk_mem (l := xs.map (fun x => x.1)) (List.mem_map.2 ⟨_, List.getElem_mem hil, rfl⟩)) (by omega)⟩
theorem open_rowb {P : Program} {t e : TypeId} {α : Type} {cells : α → List Value} {ok : α → Prop} {size fuel : Nat} {v : Value} {x : DataW H × List MemPlace} (ht : P.underlying t = some (.slice e)) (hC : P.cellsOf e = size) (hs : 0 < size)
    (hone : ∀ n cs y, DataW.trod enc P w base sp held n e cs = some y → Rows.uptoBulk y.1 ≤ 1048576 → ∃ a, cs = cells a ∧ ok a) (hl : ∀ a, (cells a).length = size) (h : DataW.trod enc P w base sp held fuel t [v] = some x) (hsz : Rows.uptoBulk x.1 ≤ 1048576) :
    ∃ A n cap, ∃ l : List α, v = .slice A n cap ∧ Reads w w.heap.size size A n (l.flatMap cells) ∧ l.length = n ∧ (∀ a ∈ l, ok a) ∧ n ≤ cap ∧ cap ≤ maxLen ∧ n ≤ 1048576 := by
  rcases open_slice ht h with ⟨hcs, hx⟩ | ⟨a, len, cap, m, n, D, Pl, hcs, hb, hle, hm, hmm, hx, hi⟩
  · injection hcs with hcs
    exact ⟨none, 0, 0, [], hcs, (by refine ⟨?_, fun h => absurd h (by omega)⟩; simp), rfl, (fun a h => (by cases h)), (by omega), (by unfold maxLen; omega), (by omega)⟩
  · injection hcs with hcs
    have hlm : len ≤ m := by rw [hmm]; split <;> omega
    rw [hx] at hsz
    simp only [Rows.uptoBulk] at hsz
    have hr : len ≤ 1048576 := by
      have h1 := bulk_len ((List.range len).map D)
      simp only [List.length_map, List.length_range] at h1
      omega
    have hD : ∀ i, i < len → Rows.uptoBulk (D i) ≤ 1048576 := fun i hi => Nat.le_trans (bulk_mem (l := (List.range len).map D) (List.mem_map.2 ⟨i, List.mem_range.2 hi, rfl⟩)) (by omega)
    have hcell : ∀ i, i < len → ∃ y : α, ok y ∧ ∀ j, j < size → w.cell? (a.add (i * size + j)) = (cells y)[j]? := by
      intro i hi'
      obtain ⟨cs', hc, ht'⟩ := hi i (by omega)
      obtain ⟨y, rfl, hy⟩ := hone _ _ _ ht' (hD i hi')
      rw [hC] at hc
      obtain ⟨_, hlc, hat⟩ := World.cells?_some hc
      refine ⟨y, hy, fun j hj => ?_⟩
      have := hat j hj
      rw [Go.Deep.add_add] at this
      exact this
    obtain ⟨l, h1, h2⟩ : ∃ l : List α, l.length = len ∧ ∀ i (hi : i < l.length), ok l[i] ∧ ∀ j, j < size → w.cell? (a.add (i * size + j)) = (cells l[i])[j]? := by
      clear hx hi h hmm hle hcs hlm hsz hr hD
      induction len with
      | zero => exact ⟨[], rfl, fun i hi => absurd hi (by simp)⟩
      | succ len ih =>
        obtain ⟨ns, h1, h2⟩ := ih fun i hi => hcell i (by omega)
        obtain ⟨s, hs⟩ := hcell len (by omega)
        refine ⟨ns ++ [s], by simp [h1], fun i hi => ?_⟩
        by_cases hlt : i < ns.length
        · rw [List.getElem_append_left hlt]; exact h2 i hlt
        · obtain rfl : i = len := by simp at hi; omega
          rw [List.getElem_append_right (by omega)]
          simp only [h1, Nat.sub_self, List.getElem_cons_zero]
          exact hs
    have hflat : ∀ (l : List α), (l.flatMap cells).length = l.length * size := by
      intro l
      induction l with
      | nil => simp
      | cons p l ih => rw [List.flatMap_cons, List.length_append, ih, hl, List.length_cons, Nat.succ_mul]; omega
    have hget : ∀ (l : List α) (i : Nat) (hi : i < l.length) (j : Nat), j < size → (l.flatMap cells)[i * size + j]? = (cells l[i])[j]? := by
      intro l
      induction l with
      | nil => intro i hi; simp at hi
      | cons p l ih =>
        intro i hi j hj
        rw [List.flatMap_cons]
        cases i with
        | zero => rw [Nat.zero_mul, Nat.zero_add, List.getElem?_append_left (by rw [hl]; exact hj)]; rfl
        | succ i =>
          rw [List.getElem?_append_right (by rw [hl, Nat.succ_mul]; omega), hl, show (i + 1) * size + j - size = i * size + j by rw [Nat.succ_mul]; omega]
          exact ih i (by simpa using hi) j hj
    refine ⟨some a, len, cap, l, hcs, ⟨by rw [hflat, h1], fun hn => ⟨a, rfl, ?_, fun j u hu => ?_⟩⟩, h1, fun y hy => ?_, hle, hm, hr⟩
    · have h3 := (h2 0 (by omega)).2 0 hs
      have h4 : (cells (l[0]'(by omega)))[0]? = some ((cells (l[0]'(by omega)))[0]'(by rw [hl]; exact hs)) := List.getElem?_eq_getElem _
      rw [h4] at h3
      have := World.block_lt_of_cell? _ _ h3
      rwa [block_of_add] at this
    · have hj : j < l.length * size := by
        have h3 := (List.getElem?_eq_some_iff.1 hu).1
        rwa [hflat] at h3
      have hd : j / size < l.length := Nat.div_lt_of_lt_mul (by rw [Nat.mul_comm]; exact hj)
      have hm' : j % size < size := Nat.mod_lt _ hs
      have ej : j / size * size + j % size = j := by rw [Nat.mul_comm]; exact Nat.div_add_mod j size
      have h3 := (h2 (j / size) hd).2 (j % size) hm'
      have h4 := hget l (j / size) hd (j % size) hm'
      rw [ej] at h3 h4
      rw [h3, ← h4, hu]
    · obtain ⟨i, hi, rfl⟩ := List.mem_iff_getElem.1 hy
      exact (h2 i hi).1
theorem open_memsb {fuel : Nat} {v : Value} {x : DataW H × List MemPlace} (h : DataW.trod enc Tryz.prog w base sp held fuel 73 [v] = some x) (hsz : Rows.uptoBulk x.1 ≤ 1048576) :
    ∃ A n cap ms, v = .slice A n cap ∧ Reads w w.heap.size 2 A n (mcells ms) ∧ ms.length = n ∧ (∀ y ∈ ms, MemOk y) ∧ n ≤ cap ∧ cap ≤ maxLen ∧ n ≤ 1048576 :=
  open_rowb Tryz.underlying73 (by kernel_rfl) (by decide) (fun n cs y hy _ => open_mem1 hy) (fun _ => rfl) h hsz
theorem open_intlb {fuel : Nat} {v : Value} {x : DataW H × List MemPlace} (h : DataW.trod enc Tryz.prog w base sp held fuel 25 [v] = some x) (hsz : Rows.uptoBulk x.1 ≤ 1048576) :
    ∃ A n cap, ∃ l : List Int, v = .slice A n cap ∧ Reads w w.heap.size 1 A n (l.map iv) ∧ l.length = n ∧ (∀ y ∈ l, I64 y) ∧ n ≤ cap ∧ cap ≤ maxLen ∧ n ≤ 1048576 := by
  obtain ⟨A, n, cap, l, h1, h2, h3⟩ := open_rowb (cells := fun y => [iv y]) Tryz.underlying25 (by kernel_rfl) (by decide) (fun n cs y hy _ => open_int1 hy) (fun _ => rfl) h hsz
  rw [flat_iv] at h2
  exact ⟨A, n, cap, l, h1, h2, h3⟩
theorem open_str1 {fuel : Nat} {cs : List Value} {x : DataW H × List MemPlace} (h : DataW.trod enc Tryz.prog w base sp held fuel 9 cs = some x) (hsz : Rows.uptoBulk x.1 ≤ 1048576) : ∃ y : List Nat, cs = [stv y] ∧ TxtOk y := by
  obtain ⟨z, e, d, -⟩ := DataW.trod_string Tryz.underlying9 h
  rw [d] at hsz
  have b := str_small hsz
  rw [← octs_len] at b
  exact ⟨octs z, by rw [e]; unfold stv; rw [strOf_octs], octs_byt z, b⟩
theorem flat_stv (l : List (List Nat)) : l.flatMap (fun y => [stv y]) = l.map stv := by
  induction l with
  | nil => rfl
  | cons a l ih => rw [List.flatMap_cons, ih]; rfl
theorem open_strsb {fuel : Nat} {v : Value} {x : DataW H × List MemPlace} (h : DataW.trod enc Tryz.prog w base sp held fuel 36 [v] = some x) (hsz : Rows.uptoBulk x.1 ≤ 1048576) :
    ∃ A n cap, ∃ l : List (List Nat), v = .slice A n cap ∧ Reads w w.heap.size 1 A n (l.map stv) ∧ l.length = n ∧ (∀ y ∈ l, TxtOk y) ∧ n ≤ cap ∧ cap ≤ maxLen ∧ n ≤ 1048576 := by
  obtain ⟨A, n, cap, l, h1, h2, h3⟩ := open_rowb (cells := fun y => [stv y]) Tryz.underlying36 (by kernel_rfl) (by decide) (fun n cs y hy hb => open_str1 hy hb) (fun _ => rfl) h hsz
  rw [flat_stv] at h2
  exact ⟨A, n, cap, l, h1, h2, h3⟩
theorem trod_one {P : Program} {t : TypeId} {v : Value} {fuel : Nat} {x : DataW H × List MemPlace} (hv : v.cells.toList = [v]) (h : DataW.trod enc P w base sp held fuel t [v] = some x) : DataW.Trod enc P w base sp held t v x.1 x.2 := ⟨fuel, by rw [hv]; exact h⟩
theorem open_bytb {fuel : Nat} {v : Value} {x : DataW H × List MemPlace} (h : DataW.trod enc Tryz.prog w base sp held fuel 33 [v] = some x) (hsz : Rows.uptoBulk x.1 ≤ 1048576) :
    ∃ A n cap, ∃ l : List Nat, v = .slice A n cap ∧ Reads w w.heap.size 1 A n (l.map bv) ∧ l.length = n ∧ Byt l ∧ n ≤ cap ∧ cap ≤ maxLen ∧ n ≤ 1048576 := by
  obtain ⟨E, em, ec, rfl⟩ : ∃ E em ec, v = .slice E em ec := by
    rcases open_slice Tryz.underlying33 h with ⟨e, -⟩ | ⟨a, len, cap, m, n, D, Pl, e, -⟩ <;> injection e with e <;> exact ⟨_, _, _, e⟩
  have T2 : DataW.Trod enc Tryz.prog w base sp held 33 (.slice E em ec) x.1 x.2 := trod_one rfl h
  obtain ⟨zs, hzs⟩ := open_in_ints Tryz.underlying33 Tryz.underlying5 (by kernel_rfl) T2
  obtain ⟨data, hby, hdl, hd, h1, h2⟩ := hzs.bytes
  have hr := ints_small Tryz.underlying33 Tryz.underlying5 (by kernel_rfl) T2 hsz
  exact ⟨E, em, ec, data, rfl, hd, hdl, hby, h1, h2, hr⟩
set_option maxHeartbeats 4000000 in
theorem open_mapb {fuel : Nat} {cs : List Value} {x : DataW H × List MemPlace} (h : DataW.trod enc Tryz.prog w base sp held fuel 75 cs = some x) (hsz : Rows.uptoBulk x.1 ≤ 1048576) : ∃ (ep : Nat) (A : Option Addr) (n cap : Nat) (ms : List (Int × Int)), cs = [.int .u64 (ep : Int), .slice A n cap] ∧ ep < 18446744073709551616 ∧ Reads w w.heap.size 2 A n (mcells ms) ∧ ms.length = n ∧ (∀ y ∈ ms, MemOk y) ∧ n ≤ 1048576 := by
  obtain ⟨fs, hu, hk⟩ : ∃ fs : Array Field, Tryz.prog.underlying 75 = some (.struct fs) ∧ (([0, 1] : List Nat).map fun i => fs[i]?.map fun f => (f.type, f.offset)) = [some (23, 0), some (73, 1)] := ⟨_, Tryz.underlying75, by kernel_rfl⟩
  simp only [List.map_cons, List.map_nil, List.cons.injEq, and_true] at hk
  obtain ⟨k0, k1⟩ := hk
  obtain ⟨hlen, n, fld⟩ := trod_fldb hu h hsz
  have hl0 : cs.length = 2 := hlen.trans (by kernel_rfl)
  clear hlen h hsz
  obtain ⟨a0, s0, rfl, hl1⟩ := cons_of hl0
  obtain ⟨a1, s1, rfl, hl2⟩ := cons_of hl1
  obtain rfl := nil_of hl2
  obtain ⟨y0, f0, g0⟩ := fld 0 0 1 _ k0 (by kernel_rfl)
  simp only [List.drop_succ_cons, List.drop_zero, List.take_succ_cons, List.take_zero] at f0
  obtain ⟨y1, f1, g1⟩ := fld 1 1 1 _ k1 (by kernel_rfl)
  simp only [List.drop_succ_cons, List.drop_zero, List.take_succ_cons, List.take_zero] at f1
  clear fld hl0 hl1 hl2
  obtain ⟨z0, e0, -, b0⟩ := DataW.trod_int Tryz.underlying23 f0
  injection e0 with e0
  subst e0
  obtain ⟨z0, rfl, c0⟩ := nat_u64 b0
  obtain ⟨A, k, cap, ms, e1, hr, hl, hm, hc, hx, hn⟩ := open_memsb f1 g1
  subst e1
  exact ⟨z0, A, k, cap, ms, rfl, c0, hr, hl, hm, hn⟩
set_option maxHeartbeats 4000000 in
theorem open_cmdb {fuel : Nat} {cs : List Value} {x : DataW H × List MemPlace} (h : DataW.trod enc Tryz.prog w base sp held fuel 77 cs = some x) (hsz : Rows.uptoBulk x.1 ≤ 1048576) : ∃ (y : CmdT) (A : Option Addr) (c : Nat), cs = (#[.int .i64 y.kind, .int .u64 (y.client : Int), .int .u64 (y.seq : Int), .string (strOf y.key), .int .i64 y.size, .int .u32 (y.sum : Int), .int .u64 (y.version : Int), .int .u64 (y.epoch : Int), .int .i64 y.group, .int .i64 y.node, .bool y.up, .int .u64 (y.id.ver : Int), .int .i64 y.id.idx, .int .u64 (y.id.ep : Int), .int .u64 (y.mep : Int), .slice A y.mem.length c]).toList ∧ Reads w w.heap.size 2 A y.mem.length (mcells y.mem) ∧ CmdW y ∧ y.key.length ≤ 1048576 ∧ y.mem.length ≤ 1048576 := by
  obtain ⟨fs, hu, hk⟩ : ∃ fs : Array Field, Tryz.prog.underlying 77 = some (.struct fs) ∧ (([0, 1, 2, 3, 4, 5, 6, 7, 8, 9, 10, 11, 12] : List Nat).map fun i => fs[i]?.map fun f => (f.type, f.offset)) = [some (72, 0), some (23, 1), some (23, 2), some (9, 3), some (3, 4), some (30, 5), some (23, 6), some (23, 7), some (3, 8), some (3, 9), some (4, 10), some (29, 11), some (75, 14)] := ⟨_, Tryz.underlying77, by kernel_rfl⟩
  simp only [List.map_cons, List.map_nil, List.cons.injEq, and_true] at hk
  obtain ⟨k0, k1, k2, k3, k4, k5, k6, k7, k8, k9, k10, k11, k12⟩ := hk
  obtain ⟨hlen, n, fld⟩ := trod_fldb hu h hsz
  have hl0 : cs.length = 16 := hlen.trans (by kernel_rfl)
  clear hlen h hsz
  obtain ⟨a0, s0, rfl, hl1⟩ := cons_of hl0
  obtain ⟨a1, s1, rfl, hl2⟩ := cons_of hl1
  obtain ⟨a2, s2, rfl, hl3⟩ := cons_of hl2
  obtain ⟨a3, s3, rfl, hl4⟩ := cons_of hl3
  obtain ⟨a4, s4, rfl, hl5⟩ := cons_of hl4
  obtain ⟨a5, s5, rfl, hl6⟩ := cons_of hl5
  obtain ⟨a6, s6, rfl, hl7⟩ := cons_of hl6
  obtain ⟨a7, s7, rfl, hl8⟩ := cons_of hl7
  obtain ⟨a8, s8, rfl, hl9⟩ := cons_of hl8
  obtain ⟨a9, s9, rfl, hl10⟩ := cons_of hl9
  obtain ⟨a10, s10, rfl, hl11⟩ := cons_of hl10
  obtain ⟨a11, s11, rfl, hl12⟩ := cons_of hl11
  obtain ⟨a12, s12, rfl, hl13⟩ := cons_of hl12
  obtain ⟨a13, s13, rfl, hl14⟩ := cons_of hl13
  obtain ⟨a14, s14, rfl, hl15⟩ := cons_of hl14
  obtain ⟨a15, s15, rfl, hl16⟩ := cons_of hl15
  obtain rfl := nil_of hl16
  obtain ⟨y0, f0, g0⟩ := fld 0 0 1 _ k0 (by kernel_rfl)
  simp only [List.drop_succ_cons, List.drop_zero, List.take_succ_cons, List.take_zero] at f0
  obtain ⟨y1, f1, g1⟩ := fld 1 1 1 _ k1 (by kernel_rfl)
  simp only [List.drop_succ_cons, List.drop_zero, List.take_succ_cons, List.take_zero] at f1
  obtain ⟨y2, f2, g2⟩ := fld 2 2 1 _ k2 (by kernel_rfl)
  simp only [List.drop_succ_cons, List.drop_zero, List.take_succ_cons, List.take_zero] at f2
  obtain ⟨y3, f3, g3⟩ := fld 3 3 1 _ k3 (by kernel_rfl)
  simp only [List.drop_succ_cons, List.drop_zero, List.take_succ_cons, List.take_zero] at f3
  obtain ⟨y4, f4, g4⟩ := fld 4 4 1 _ k4 (by kernel_rfl)
  simp only [List.drop_succ_cons, List.drop_zero, List.take_succ_cons, List.take_zero] at f4
  obtain ⟨y5, f5, g5⟩ := fld 5 5 1 _ k5 (by kernel_rfl)
  simp only [List.drop_succ_cons, List.drop_zero, List.take_succ_cons, List.take_zero] at f5
  obtain ⟨y6, f6, g6⟩ := fld 6 6 1 _ k6 (by kernel_rfl)
  simp only [List.drop_succ_cons, List.drop_zero, List.take_succ_cons, List.take_zero] at f6
  obtain ⟨y7, f7, g7⟩ := fld 7 7 1 _ k7 (by kernel_rfl)
  simp only [List.drop_succ_cons, List.drop_zero, List.take_succ_cons, List.take_zero] at f7
  obtain ⟨y8, f8, g8⟩ := fld 8 8 1 _ k8 (by kernel_rfl)
  simp only [List.drop_succ_cons, List.drop_zero, List.take_succ_cons, List.take_zero] at f8
  obtain ⟨y9, f9, g9⟩ := fld 9 9 1 _ k9 (by kernel_rfl)
  simp only [List.drop_succ_cons, List.drop_zero, List.take_succ_cons, List.take_zero] at f9
  obtain ⟨y10, f10, g10⟩ := fld 10 10 1 _ k10 (by kernel_rfl)
  simp only [List.drop_succ_cons, List.drop_zero, List.take_succ_cons, List.take_zero] at f10
  obtain ⟨y11, f11, g11⟩ := fld 11 11 3 _ k11 (by kernel_rfl)
  simp only [List.drop_succ_cons, List.drop_zero, List.take_succ_cons, List.take_zero] at f11
  obtain ⟨y12, f12, g12⟩ := fld 12 14 2 _ k12 (by kernel_rfl)
  simp only [List.drop_succ_cons, List.drop_zero, List.take_succ_cons, List.take_zero] at f12
  clear fld hl0 hl1 hl2 hl3 hl4 hl5 hl6 hl7 hl8 hl9 hl10 hl11 hl12 hl13 hl14 hl15 hl16
  obtain ⟨z0, e0, -, b0⟩ := DataW.trod_int Tryz.underlying72 f0
  injection e0 with e0
  subst e0
  have b0 := int_i64 b0
  obtain ⟨z1, e1, -, b1⟩ := DataW.trod_int Tryz.underlying23 f1
  injection e1 with e1
  subst e1
  obtain ⟨z1, rfl, c1⟩ := nat_u64 b1
  obtain ⟨z2, e2, -, b2⟩ := DataW.trod_int Tryz.underlying23 f2
  injection e2 with e2
  subst e2
  obtain ⟨z2, rfl, c2⟩ := nat_u64 b2
  obtain ⟨z3, e3, d3, -⟩ := DataW.trod_string Tryz.underlying9 f3
  injection e3 with e3
  subst e3
  rw [d3] at g3
  have b3 := str_small g3
  rw [← octs_len] at b3
  obtain ⟨z4, e4, -, b4⟩ := DataW.trod_int Tryz.underlying3 f4
  injection e4 with e4
  subst e4
  have b4 := int_i64 b4
  obtain ⟨z5, e5, -, b5⟩ := DataW.trod_int Tryz.underlying30 f5
  injection e5 with e5
  subst e5
  obtain ⟨z5, rfl, c5⟩ := nat_u32 b5
  obtain ⟨z6, e6, -, b6⟩ := DataW.trod_int Tryz.underlying23 f6
  injection e6 with e6
  subst e6
  obtain ⟨z6, rfl, c6⟩ := nat_u64 b6
  obtain ⟨z7, e7, -, b7⟩ := DataW.trod_int Tryz.underlying23 f7
  injection e7 with e7
  subst e7
  obtain ⟨z7, rfl, c7⟩ := nat_u64 b7
  obtain ⟨z8, e8, -, b8⟩ := DataW.trod_int Tryz.underlying3 f8
  injection e8 with e8
  subst e8
  have b8 := int_i64 b8
  obtain ⟨z9, e9, -, b9⟩ := DataW.trod_int Tryz.underlying3 f9
  injection e9 with e9
  subst e9
  have b9 := int_i64 b9
  obtain ⟨z10, e10, -⟩ := DataW.trod_bool Tryz.underlying4 f10
  injection e10 with e10
  subst e10
  obtain ⟨id, e11, b11⟩ := open_id1 f11
  injection e11 with q0 e11
  injection e11 with q1 e11
  injection e11 with q2 e11
  subst q0 q1 q2
  obtain ⟨ep, A, k, cap, ms, e12, b12, hr, hl, hm, hn⟩ := open_mapb f12 g12
  injection e12 with p0 e12
  injection e12 with p1 e12
  subst p0 p1
  exact ⟨⟨z0, z1, z2, octs z3, z4, z5, z6, z7, z8, z9, z10, id, ep, ms⟩, A, cap, by simp only [strOf_octs, hl], by rw [hl]; exact hr, ⟨b0, c1, c2, octs_byt z3, b4, c5, c6, c7, b8, b9, b11, b12, hm⟩, b3, by rw [hl]; exact hn⟩
set_option maxHeartbeats 4000000 in
theorem open_confb {fuel : Nat} {cs : List Value} {x : DataW H × List MemPlace} (h : DataW.trod enc Tryz.prog w base sp held fuel 27 cs = some x) (hsz : Rows.uptoBulk x.1 ≤ 1048576) : ∃ (A : Option Addr) (c : Nat) (B : Option Addr) (d : Nat) (y : List Int × List Int), cs = [.slice A y.1.length c, .slice B y.2.length d] ∧ Reads w w.heap.size 1 A y.1.length (y.1.map iv) ∧ Reads w w.heap.size 1 B y.2.length (y.2.map iv) ∧ (∀ x ∈ y.1, I64 x) ∧ (∀ x ∈ y.2, I64 x) ∧ y.1.length ≤ 1048576 ∧ y.2.length ≤ 1048576 := by
  obtain ⟨fs, hu, hk⟩ : ∃ fs : Array Field, Tryz.prog.underlying 27 = some (.struct fs) ∧ (([0, 1] : List Nat).map fun i => fs[i]?.map fun f => (f.type, f.offset)) = [some (25, 0), some (25, 1)] := ⟨_, Tryz.underlying27, by kernel_rfl⟩
  simp only [List.map_cons, List.map_nil, List.cons.injEq, and_true] at hk
  obtain ⟨k0, k1⟩ := hk
  obtain ⟨hlen, n, fld⟩ := trod_fldb hu h hsz
  have hl0 : cs.length = 2 := hlen.trans (by kernel_rfl)
  clear hlen h hsz
  obtain ⟨a0, s0, rfl, hl1⟩ := cons_of hl0
  obtain ⟨a1, s1, rfl, hl2⟩ := cons_of hl1
  obtain rfl := nil_of hl2
  obtain ⟨y0, f0, g0⟩ := fld 0 0 1 _ k0 (by kernel_rfl)
  simp only [List.drop_succ_cons, List.drop_zero, List.take_succ_cons, List.take_zero] at f0
  obtain ⟨y1, f1, g1⟩ := fld 1 1 1 _ k1 (by kernel_rfl)
  simp only [List.drop_succ_cons, List.drop_zero, List.take_succ_cons, List.take_zero] at f1
  clear fld hl0 hl1 hl2
  obtain ⟨A, k, c, l, e0, r0, h0, o0, -, -, n0⟩ := open_intlb f0 g0
  subst e0
  obtain ⟨B, m, d, l2, e1, r1, h1, o1, -, -, n1⟩ := open_intlb f1 g1
  subst e1
  exact ⟨A, c, B, d, (l, l2), by simp only [h0, h1], by rw [h0]; exact r0, by rw [h1]; exact r1, o0, o1, by rw [h0]; exact n0, by rw [h1]; exact n1⟩
set_option maxHeartbeats 4000000 in
theorem open_emb {fuel : Nat} {cs : List Value} {x : DataW H × List MemPlace} (h : DataW.trod enc Tryz.prog w base sp held fuel 79 cs = some x) (hsz : Rows.uptoBulk x.1 ≤ 1048576) : ∃ m : EM, cs = emCs m ∧ EmIn w m ∧ EntOk m.x := by
  obtain ⟨fs, hu, hk⟩ : ∃ fs : Array Field, Tryz.prog.underlying 79 = some (.struct fs) ∧ (([0, 1, 2, 3, 4] : List Nat).map fun i => fs[i]?.map fun f => (f.type, f.offset)) = [some (23, 0), some (23, 1), some (71, 2), some (77, 3), some (27, 19)] := ⟨_, Tryz.underlying79, by kernel_rfl⟩
  simp only [List.map_cons, List.map_nil, List.cons.injEq, and_true] at hk
  obtain ⟨k0, k1, k2, k3, k4⟩ := hk
  obtain ⟨hlen, n, fld⟩ := trod_fldb hu h hsz
  have hl0 : cs.length = 21 := hlen.trans (by kernel_rfl)
  clear hlen h hsz
  obtain ⟨a0, s0, rfl, hl1⟩ := cons_of hl0
  obtain ⟨a1, s1, rfl, hl2⟩ := cons_of hl1
  obtain ⟨a2, s2, rfl, hl3⟩ := cons_of hl2
  obtain ⟨a3, s3, rfl, hl4⟩ := cons_of hl3
  obtain ⟨a4, s4, rfl, hl5⟩ := cons_of hl4
  obtain ⟨a5, s5, rfl, hl6⟩ := cons_of hl5
  obtain ⟨a6, s6, rfl, hl7⟩ := cons_of hl6
  obtain ⟨a7, s7, rfl, hl8⟩ := cons_of hl7
  obtain ⟨a8, s8, rfl, hl9⟩ := cons_of hl8
  obtain ⟨a9, s9, rfl, hl10⟩ := cons_of hl9
  obtain ⟨a10, s10, rfl, hl11⟩ := cons_of hl10
  obtain ⟨a11, s11, rfl, hl12⟩ := cons_of hl11
  obtain ⟨a12, s12, rfl, hl13⟩ := cons_of hl12
  obtain ⟨a13, s13, rfl, hl14⟩ := cons_of hl13
  obtain ⟨a14, s14, rfl, hl15⟩ := cons_of hl14
  obtain ⟨a15, s15, rfl, hl16⟩ := cons_of hl15
  obtain ⟨a16, s16, rfl, hl17⟩ := cons_of hl16
  obtain ⟨a17, s17, rfl, hl18⟩ := cons_of hl17
  obtain ⟨a18, s18, rfl, hl19⟩ := cons_of hl18
  obtain ⟨a19, s19, rfl, hl20⟩ := cons_of hl19
  obtain ⟨a20, s20, rfl, hl21⟩ := cons_of hl20
  obtain rfl := nil_of hl21
  obtain ⟨y0, f0, g0⟩ := fld 0 0 1 _ k0 (by kernel_rfl)
  simp only [List.drop_succ_cons, List.drop_zero, List.take_succ_cons, List.take_zero] at f0
  obtain ⟨y1, f1, g1⟩ := fld 1 1 1 _ k1 (by kernel_rfl)
  simp only [List.drop_succ_cons, List.drop_zero, List.take_succ_cons, List.take_zero] at f1
  obtain ⟨y2, f2, g2⟩ := fld 2 2 1 _ k2 (by kernel_rfl)
  simp only [List.drop_succ_cons, List.drop_zero, List.take_succ_cons, List.take_zero] at f2
  obtain ⟨y3, f3, g3⟩ := fld 3 3 16 _ k3 (by kernel_rfl)
  simp only [List.drop_succ_cons, List.drop_zero, List.take_succ_cons, List.take_zero] at f3
  obtain ⟨y4, f4, g4⟩ := fld 4 19 2 _ k4 (by kernel_rfl)
  simp only [List.drop_succ_cons, List.drop_zero, List.take_succ_cons, List.take_zero] at f4
  clear fld hl0 hl1 hl2 hl3 hl4 hl5 hl6 hl7 hl8 hl9 hl10 hl11 hl12 hl13 hl14 hl15 hl16 hl17 hl18 hl19 hl20 hl21
  obtain ⟨z0, e0, -, b0⟩ := DataW.trod_int Tryz.underlying23 f0
  injection e0 with e0
  subst e0
  obtain ⟨z0, rfl, c0⟩ := nat_u64 b0
  obtain ⟨z1, e1, -, b1⟩ := DataW.trod_int Tryz.underlying23 f1
  injection e1 with e1
  subst e1
  obtain ⟨z1, rfl, c1⟩ := nat_u64 b1
  obtain ⟨z2, e2, -, b2⟩ := DataW.trod_int Tryz.underlying71 f2
  injection e2 with e2
  subst e2
  have b2 := int_i64 b2
  obtain ⟨cy, A, c, e3, r1, o3, l1, l2⟩ := open_cmdb f3 g3
  injection e3 with p0 e3
  injection e3 with p1 e3
  injection e3 with p2 e3
  injection e3 with p3 e3
  injection e3 with p4 e3
  injection e3 with p5 e3
  injection e3 with p6 e3
  injection e3 with p7 e3
  injection e3 with p8 e3
  injection e3 with p9 e3
  injection e3 with p10 e3
  injection e3 with p11 e3
  injection e3 with p12 e3
  injection e3 with p13 e3
  injection e3 with p14 e3
  injection e3 with p15 e3
  subst p0 p1 p2 p3 p4 p5 p6 p7 p8 p9 p10 p11 p12 p13 p14 p15
  obtain ⟨B, d, E, f, cf, e4, r2, r3, o4, o5, l3, l4⟩ := open_confb f4 g4
  injection e4 with u0 e4
  injection e4 with u1 e4
  subst u0 u1
  exact ⟨⟨⟨z0, z1, z2, cy, cf.1, cf.2⟩, A, c, B, d, E, f⟩, rfl, ⟨r1, r2, r3, ⟨c0, c1, b2, o3, o4, o5⟩⟩, EntW.ok (x := ⟨z0, z1, z2, cy, cf.1, cf.2⟩) ⟨c0, c1, b2, o3, o4, o5⟩ l1 l2 l3 l4⟩
theorem open_emsb {fuel : Nat} {v : Value} {x : DataW H × List MemPlace} (h : DataW.trod enc Tryz.prog w base sp held fuel 24 [v] = some x) (hsz : Rows.uptoBulk x.1 ≤ 1048576) :
    ∃ A n cap, ∃ l : List EM, v = .slice A n cap ∧ Reads w w.heap.size 21 A n (l.flatMap emCs) ∧ l.length = n ∧ (∀ m ∈ l, EmIn w m ∧ EntOk m.x) ∧ n ≤ cap ∧ cap ≤ maxLen ∧ n ≤ 1048576 :=
  open_rowb Tryz.underlying24 (by kernel_rfl) (by decide) (fun n cs y hy hb => open_emb hy hb) (fun _ => rfl) h hsz
set_option maxHeartbeats 4000000 in
theorem open_hd1 {fuel : Nat} {cs : List Value} {x : DataW H × List MemPlace} (h : DataW.trod enc Tryz.prog w base sp held fuel 32 cs = some x) (hsz : Rows.uptoBulk x.1 ≤ 1048576) : ∃ y : HdT, cs = [.int .u64 (y.id.ver : Int), .int .i64 y.id.idx, .int .u64 (y.id.ep : Int), .int .i64 y.k, .int .i64 y.n, .int .i64 y.size, .int .u32 (y.sum : Int)] ∧ HdOk y := by
  obtain ⟨fs, hu, hk⟩ : ∃ fs : Array Field, Tryz.prog.underlying 32 = some (.struct fs) ∧ (([0, 1, 2, 3, 4] : List Nat).map fun i => fs[i]?.map fun f => (f.type, f.offset)) = [some (29, 0), some (3, 3), some (3, 4), some (3, 5), some (30, 6)] := ⟨_, Tryz.underlying32, by kernel_rfl⟩
  simp only [List.map_cons, List.map_nil, List.cons.injEq, and_true] at hk
  obtain ⟨k0, k1, k2, k3, k4⟩ := hk
  obtain ⟨hlen, n, fld⟩ := trod_fldb hu h hsz
  have hl0 : cs.length = 7 := hlen.trans (by kernel_rfl)
  clear hlen h hsz
  obtain ⟨a0, s0, rfl, hl1⟩ := cons_of hl0
  obtain ⟨a1, s1, rfl, hl2⟩ := cons_of hl1
  obtain ⟨a2, s2, rfl, hl3⟩ := cons_of hl2
  obtain ⟨a3, s3, rfl, hl4⟩ := cons_of hl3
  obtain ⟨a4, s4, rfl, hl5⟩ := cons_of hl4
  obtain ⟨a5, s5, rfl, hl6⟩ := cons_of hl5
  obtain ⟨a6, s6, rfl, hl7⟩ := cons_of hl6
  obtain rfl := nil_of hl7
  obtain ⟨y0, f0, g0⟩ := fld 0 0 3 _ k0 (by kernel_rfl)
  simp only [List.drop_succ_cons, List.drop_zero, List.take_succ_cons, List.take_zero] at f0
  obtain ⟨y1, f1, g1⟩ := fld 1 3 1 _ k1 (by kernel_rfl)
  simp only [List.drop_succ_cons, List.drop_zero, List.take_succ_cons, List.take_zero] at f1
  obtain ⟨y2, f2, g2⟩ := fld 2 4 1 _ k2 (by kernel_rfl)
  simp only [List.drop_succ_cons, List.drop_zero, List.take_succ_cons, List.take_zero] at f2
  obtain ⟨y3, f3, g3⟩ := fld 3 5 1 _ k3 (by kernel_rfl)
  simp only [List.drop_succ_cons, List.drop_zero, List.take_succ_cons, List.take_zero] at f3
  obtain ⟨y4, f4, g4⟩ := fld 4 6 1 _ k4 (by kernel_rfl)
  simp only [List.drop_succ_cons, List.drop_zero, List.take_succ_cons, List.take_zero] at f4
  clear fld hl0 hl1 hl2 hl3 hl4 hl5 hl6 hl7
  obtain ⟨id, e0, b0⟩ := open_id1 f0
  injection e0 with q0 e0
  injection e0 with q1 e0
  injection e0 with q2 e0
  subst q0 q1 q2
  obtain ⟨z1, e1, -, b1⟩ := DataW.trod_int Tryz.underlying3 f1
  injection e1 with e1
  subst e1
  have b1 := int_i64 b1
  obtain ⟨z2, e2, -, b2⟩ := DataW.trod_int Tryz.underlying3 f2
  injection e2 with e2
  subst e2
  have b2 := int_i64 b2
  obtain ⟨z3, e3, -, b3⟩ := DataW.trod_int Tryz.underlying3 f3
  injection e3 with e3
  subst e3
  have b3 := int_i64 b3
  obtain ⟨z4, e4, -, b4⟩ := DataW.trod_int Tryz.underlying30 f4
  injection e4 with e4
  subst e4
  obtain ⟨z4, rfl, c4⟩ := nat_u32 b4
  exact ⟨⟨id, z1, z2, z3, z4⟩, rfl, ⟨b0.1, b0.2.1, b0.2.2, b1, b2, b3, c4⟩⟩
set_option maxRecDepth 100000 in
set_option maxHeartbeats 4000000 in
theorem open_msgb {fuel : Nat} {cs : List Value} {x : DataW H × List MemPlace} (h : DataW.trod enc Tryz.prog w base sp held fuel 38 cs = some x) (hsz : Rows.uptoBulk x.1 ≤ 1048576) : ∃ m : MG, cs = (mgCs m).toList ∧ MgIn w m ∧ MsgOk m.x := by
  obtain ⟨fs, hu, hk⟩ : ∃ fs : Array Field, Tryz.prog.underlying 38 = some (.struct fs) ∧ (([0, 1, 2, 3, 4, 5, 6, 7, 8, 9, 10, 11, 12, 13, 14, 15, 16, 17, 18, 19] : List Nat).map fun i => fs[i]?.map fun f => (f.type, f.offset)) = [some (22, 0), some (3, 1), some (3, 2), some (23, 3), some (23, 4), some (23, 5), some (23, 6), some (23, 7), some (4, 8), some (4, 9), some (24, 10), some (27, 11), some (32, 13), some (33, 20), some (23, 21), some (23, 22), some (34, 23), some (9, 24), some (35, 25), some (36, 26)] := ⟨_, Tryz.underlying38, by kernel_rfl⟩
  simp only [List.map_cons, List.map_nil, List.cons.injEq, and_true] at hk
  obtain ⟨k0, k1, k2, k3, k4, k5, k6, k7, k8, k9, k10, k11, k12, k13, k14, k15, k16, k17, k18, k19⟩ := hk
  obtain ⟨hlen, n, fld⟩ := trod_fldb hu h hsz
  have hl0 : cs.length = 27 := hlen.trans (by kernel_rfl)
  clear hlen h hsz
  obtain ⟨a0, s0, rfl, hl1⟩ := cons_of hl0
  obtain ⟨a1, s1, rfl, hl2⟩ := cons_of hl1
  obtain ⟨a2, s2, rfl, hl3⟩ := cons_of hl2
  obtain ⟨a3, s3, rfl, hl4⟩ := cons_of hl3
  obtain ⟨a4, s4, rfl, hl5⟩ := cons_of hl4
  obtain ⟨a5, s5, rfl, hl6⟩ := cons_of hl5
  obtain ⟨a6, s6, rfl, hl7⟩ := cons_of hl6
  obtain ⟨a7, s7, rfl, hl8⟩ := cons_of hl7
  obtain ⟨a8, s8, rfl, hl9⟩ := cons_of hl8
  obtain ⟨a9, s9, rfl, hl10⟩ := cons_of hl9
  obtain ⟨a10, s10, rfl, hl11⟩ := cons_of hl10
  obtain ⟨a11, s11, rfl, hl12⟩ := cons_of hl11
  obtain ⟨a12, s12, rfl, hl13⟩ := cons_of hl12
  obtain ⟨a13, s13, rfl, hl14⟩ := cons_of hl13
  obtain ⟨a14, s14, rfl, hl15⟩ := cons_of hl14
  obtain ⟨a15, s15, rfl, hl16⟩ := cons_of hl15
  obtain ⟨a16, s16, rfl, hl17⟩ := cons_of hl16
  obtain ⟨a17, s17, rfl, hl18⟩ := cons_of hl17
  obtain ⟨a18, s18, rfl, hl19⟩ := cons_of hl18
  obtain ⟨a19, s19, rfl, hl20⟩ := cons_of hl19
  obtain ⟨a20, s20, rfl, hl21⟩ := cons_of hl20
  obtain ⟨a21, s21, rfl, hl22⟩ := cons_of hl21
  obtain ⟨a22, s22, rfl, hl23⟩ := cons_of hl22
  obtain ⟨a23, s23, rfl, hl24⟩ := cons_of hl23
  obtain ⟨a24, s24, rfl, hl25⟩ := cons_of hl24
  obtain ⟨a25, s25, rfl, hl26⟩ := cons_of hl25
  obtain ⟨a26, s26, rfl, hl27⟩ := cons_of hl26
  obtain rfl := nil_of hl27
  obtain ⟨y0, f0, g0⟩ := fld 0 0 1 _ k0 (by kernel_rfl)
  simp only [List.drop_succ_cons, List.drop_zero, List.take_succ_cons, List.take_zero] at f0
  obtain ⟨y1, f1, g1⟩ := fld 1 1 1 _ k1 (by kernel_rfl)
  simp only [List.drop_succ_cons, List.drop_zero, List.take_succ_cons, List.take_zero] at f1
  obtain ⟨y2, f2, g2⟩ := fld 2 2 1 _ k2 (by kernel_rfl)
  simp only [List.drop_succ_cons, List.drop_zero, List.take_succ_cons, List.take_zero] at f2
  obtain ⟨y3, f3, g3⟩ := fld 3 3 1 _ k3 (by kernel_rfl)
  simp only [List.drop_succ_cons, List.drop_zero, List.take_succ_cons, List.take_zero] at f3
  obtain ⟨y4, f4, g4⟩ := fld 4 4 1 _ k4 (by kernel_rfl)
  simp only [List.drop_succ_cons, List.drop_zero, List.take_succ_cons, List.take_zero] at f4
  obtain ⟨y5, f5, g5⟩ := fld 5 5 1 _ k5 (by kernel_rfl)
  simp only [List.drop_succ_cons, List.drop_zero, List.take_succ_cons, List.take_zero] at f5
  obtain ⟨y6, f6, g6⟩ := fld 6 6 1 _ k6 (by kernel_rfl)
  simp only [List.drop_succ_cons, List.drop_zero, List.take_succ_cons, List.take_zero] at f6
  obtain ⟨y7, f7, g7⟩ := fld 7 7 1 _ k7 (by kernel_rfl)
  simp only [List.drop_succ_cons, List.drop_zero, List.take_succ_cons, List.take_zero] at f7
  obtain ⟨y8, f8, g8⟩ := fld 8 8 1 _ k8 (by kernel_rfl)
  simp only [List.drop_succ_cons, List.drop_zero, List.take_succ_cons, List.take_zero] at f8
  obtain ⟨y9, f9, g9⟩ := fld 9 9 1 _ k9 (by kernel_rfl)
  simp only [List.drop_succ_cons, List.drop_zero, List.take_succ_cons, List.take_zero] at f9
  obtain ⟨y10, f10, g10⟩ := fld 10 10 1 _ k10 (by kernel_rfl)
  simp only [List.drop_succ_cons, List.drop_zero, List.take_succ_cons, List.take_zero] at f10
  obtain ⟨y11, f11, g11⟩ := fld 11 11 2 _ k11 (by kernel_rfl)
  simp only [List.drop_succ_cons, List.drop_zero, List.take_succ_cons, List.take_zero] at f11
  obtain ⟨y12, f12, g12⟩ := fld 12 13 7 _ k12 (by kernel_rfl)
  simp only [List.drop_succ_cons, List.drop_zero, List.take_succ_cons, List.take_zero] at f12
  obtain ⟨y13, f13, g13⟩ := fld 13 20 1 _ k13 (by kernel_rfl)
  simp only [List.drop_succ_cons, List.drop_zero, List.take_succ_cons, List.take_zero] at f13
  obtain ⟨y14, f14, g14⟩ := fld 14 21 1 _ k14 (by kernel_rfl)
  simp only [List.drop_succ_cons, List.drop_zero, List.take_succ_cons, List.take_zero] at f14
  obtain ⟨y15, f15, g15⟩ := fld 15 22 1 _ k15 (by kernel_rfl)
  simp only [List.drop_succ_cons, List.drop_zero, List.take_succ_cons, List.take_zero] at f15
  obtain ⟨y16, f16, g16⟩ := fld 16 23 1 _ k16 (by kernel_rfl)
  simp only [List.drop_succ_cons, List.drop_zero, List.take_succ_cons, List.take_zero] at f16
  obtain ⟨y17, f17, g17⟩ := fld 17 24 1 _ k17 (by kernel_rfl)
  simp only [List.drop_succ_cons, List.drop_zero, List.take_succ_cons, List.take_zero] at f17
  obtain ⟨y18, f18, g18⟩ := fld 18 25 1 _ k18 (by kernel_rfl)
  simp only [List.drop_succ_cons, List.drop_zero, List.take_succ_cons, List.take_zero] at f18
  obtain ⟨y19, f19, g19⟩ := fld 19 26 1 _ k19 (by kernel_rfl)
  simp only [List.drop_succ_cons, List.drop_zero, List.take_succ_cons, List.take_zero] at f19
  clear fld hl0 hl1 hl2 hl3 hl4 hl5 hl6 hl7 hl8 hl9 hl10 hl11 hl12 hl13 hl14 hl15 hl16 hl17 hl18 hl19 hl20 hl21 hl22 hl23 hl24 hl25 hl26 hl27
  obtain ⟨z0, e0, -, b0⟩ := DataW.trod_int Tryz.underlying22 f0
  injection e0 with e0
  subst e0
  have b0 := int_i64 b0
  obtain ⟨z1, e1, -, b1⟩ := DataW.trod_int Tryz.underlying3 f1
  injection e1 with e1
  subst e1
  have b1 := int_i64 b1
  obtain ⟨z2, e2, -, b2⟩ := DataW.trod_int Tryz.underlying3 f2
  injection e2 with e2
  subst e2
  have b2 := int_i64 b2
  obtain ⟨z3, e3, -, b3⟩ := DataW.trod_int Tryz.underlying23 f3
  injection e3 with e3
  subst e3
  obtain ⟨z3, rfl, c3⟩ := nat_u64 b3
  obtain ⟨z4, e4, -, b4⟩ := DataW.trod_int Tryz.underlying23 f4
  injection e4 with e4
  subst e4
  obtain ⟨z4, rfl, c4⟩ := nat_u64 b4
  obtain ⟨z5, e5, -, b5⟩ := DataW.trod_int Tryz.underlying23 f5
  injection e5 with e5
  subst e5
  obtain ⟨z5, rfl, c5⟩ := nat_u64 b5
  obtain ⟨z6, e6, -, b6⟩ := DataW.trod_int Tryz.underlying23 f6
  injection e6 with e6
  subst e6
  obtain ⟨z6, rfl, c6⟩ := nat_u64 b6
  obtain ⟨z7, e7, -, b7⟩ := DataW.trod_int Tryz.underlying23 f7
  injection e7 with e7
  subst e7
  obtain ⟨z7, rfl, c7⟩ := nat_u64 b7
  obtain ⟨z8, e8, -⟩ := DataW.trod_bool Tryz.underlying4 f8
  injection e8 with e8
  subst e8
  obtain ⟨z9, e9, -⟩ := DataW.trod_bool Tryz.underlying4 f9
  injection e9 with e9
  subst e9
  obtain ⟨Ae, ne, ce, es, e10, r10, l10, o10, -, -, n10⟩ := open_emsb f10 g10
  subst e10
  obtain ⟨Av, cv, Al, cl, cf, e11, r11, r11b, o11, o11b, n11, n11b⟩ := open_confb f11 g11
  injection e11 with u0 e11
  injection e11 with u1 e11
  subst u0 u1
  obtain ⟨hd, e12, o12⟩ := open_hd1 f12 g12
  injection e12 with q0 e12
  injection e12 with q1 e12
  injection e12 with q2 e12
  injection e12 with q3 e12
  injection e12 with q4 e12
  injection e12 with q5 e12
  injection e12 with q6 e12
  subst q0 q1 q2 q3 q4 q5 q6
  obtain ⟨Ad, nd, cd, data, e13, r13, l13, o13, -, -, n13⟩ := open_bytb f13 g13
  subst e13
  obtain ⟨z14, e14, -, b14⟩ := DataW.trod_int Tryz.underlying23 f14
  injection e14 with e14
  subst e14
  obtain ⟨z14, rfl, c14⟩ := nat_u64 b14
  obtain ⟨z15, e15, -, b15⟩ := DataW.trod_int Tryz.underlying23 f15
  injection e15 with e15
  subst e15
  obtain ⟨z15, rfl, c15⟩ := nat_u64 b15
  obtain ⟨z16, e16, -, b16⟩ := DataW.trod_int Tryz.underlying34 f16
  injection e16 with e16
  subst e16
  have b16 := int_i64 b16
  obtain ⟨z17, e17, d17, -⟩ := DataW.trod_string Tryz.underlying9 f17
  injection e17 with e17
  subst e17
  rw [d17] at g17
  have b17 := str_small g17
  rw [← octs_len] at b17
  obtain ⟨z18, e18, -, b18⟩ := DataW.trod_int Tryz.underlying35 f18
  injection e18 with e18
  subst e18
  have b18 := int_i64 b18
  obtain ⟨An, nn, cn, names, e19, r19, l19, o19, -, -, n19⟩ := open_strsb f19 g19
  subst e19
  subst l10 l13 l19
  have hents : ∀ y ∈ es.map (·.x), EntOk y := fun y hy => by
    obtain ⟨m, hm, rfl⟩ := List.mem_map.1 hy
    exact (o10 m hm).2
  have hentw : ∀ y ∈ es.map (·.x), EntW y := fun y hy => by
    obtain ⟨m, hm, rfl⟩ := List.mem_map.1 hy
    exact (o10 m hm).1.ok
  obtain ⟨xx, exx⟩ : ∃ xx : MsgT, (⟨z0, z1, z2, z3, z4, z5, z6, z7, z8, z9, es.map (·.x), cf.1, cf.2, hd, data, z14, z15, z16, octs z17, z18, names⟩ : MsgT) = xx := ⟨_, rfl⟩
  have hw : MsgW xx := by
    subst exx
    exact ⟨b0, b1, b2, c3, c4, c5, c6, c7, hentw, o11, o11b, o12, o13, c14, c15, b16, octs_byt z17, b18, fun y hy => (o19 y hy).1⟩
  have ho : MsgOk xx := by
    subst exx
    exact ⟨b0, b1, b2, c3, c4, c5, c6, c7, ⟨hents, by rw [List.length_map]; exact n10⟩, ⟨⟨o11, n11⟩, ⟨o11b, n11b⟩⟩, o12, ⟨o13, n13⟩, c14, c15, b16, ⟨octs_byt z17, b17⟩, b18, ⟨o19, n19⟩⟩
  refine ⟨⟨xx, es, Ae, ce, Av, cv, Al, cl, Ad, cd, An, cn⟩, ?_, ⟨r10, fun e he => (o10 e he).1, ?_, ?_, ?_, ?_, ?_, hw⟩, ho⟩
  all_goals subst exx
  · unfold mgCs mgA
    simp only [strOf_octs]
  · rfl
  · exact r11
  · exact r11b
  · exact r13
  · exact r19
end
end Go.Proofs.YtlnneacgllhdhaaGreatDoor
end
section
namespace Go.Proofs.YtlnneacgllhdhaaGreatDoor
open Go.RowKit Go.ChangeShapes Go.WideShapes
set_option linter.unusedVariables false
theorem et0 : Tryz.prog.globalNamed "errors.errorType" = some 0 := by kernel_rfl
theorem rt0 : (Tryz.prog.cutTypes.find? (·.1 == "internal/reflectlite.rtype")).map (·.2) = some 216 := by kernel_rfl
theorem oneRow0 : ((List.range 266).filter fun t => Tryz.prog.rowNamed t [101, 114, 114, 111, 114]) = [101] := by kernel_rfl
theorem tsize0 : Tryz.prog.types.size = 266 := by kernel_rfl
abbrev laid0 : List (String × DataW Unit) := [("errors.errorType", Rows.laid_errors_errorType)]
theorem ge_of_laid {W : World} (h : laidMetH Tryz.prog laid0 W) : GE W := by
  have h' : laidMet Tryz.prog [] W ∧ handlesMet Tryz.prog laid0 W := h
  obtain ⟨name, u, ty, e1, e2, e3, e4, e5⟩ := h'.2 _ (List.mem_singleton.2 rfl)
  have en : name = [101, 114, 114, 111, 114] := (Option.some.inj e1).symm
  subst en
  obtain rfl := Option.some.inj (rt0.symm.trans e2)
  have hm : ty ∈ (List.range 266).filter fun t => Tryz.prog.rowNamed t [101, 114, 114, 111, 114] := List.mem_filter.2 ⟨List.mem_range.2 (by rw [← tsize0]; exact e3), e4⟩
  rw [oneRow0] at hm
  obtain rfl := List.mem_singleton.1 hm
  have hh : typeHandle Tryz.prog 101 = .pointer (some ⟨1, 101, none⟩) := by kernel_rfl
  rw [hh] at e5
  unfold GE
  simpa using World.var?_cell et0 e5 0
noncomputable def laidWorld (os : Os) : World :=
  let w0 := World.holding Tryz.prog os ⟨#[], #[], []⟩
  { w0 with heap := w0.heap.modify 0 fun
      | .cells _ t frozen => .cells #[.iface 216 (.agg #[.pointer (some ⟨1, 101, none⟩)])] t frozen
      | o => o }
theorem laid_met (os : Os) (args : Array Value) : laidMetH Tryz.prog laid0 ((laidWorld os).forCall (fun _ _ => 0) ⟨#[], args, []⟩).memory :=
  laidMetH_of_parts (laidMet_nil _ _) (by kernel_rfl)
end Go.Proofs.YtlnneacgllhdhaaGreatDoor
end
