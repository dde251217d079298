/-
  CALLERS: what one is in memory; which may be (the program's own 'may').
-/
import Derived.Test.YtmamdnikjfmenaaLib
import Derived.ChangeSame
namespace Go.Proofs.Ytmamdnikjfmenaa
open Go.RowKit
set_option linter.unusedVariables false
structure Cal where
  client : Nat
  nodes : List Int
  at_ : Int
  turn : Int
  seq : Nat
  opn : Bool
  kind : Int
  key : ByteArray
  data : List Nat
  waited : Int
  retry : Int
  limit : Int
/-- A caller's cells. -/
def Cal.cs (c : Cal) (n : Nat) (N : Option Addr) (nc : Nat) (m : Nat) (D : Option Addr) (dc : Nat) : Array Value :=
  #[.int .u64 c.client, .slice N n nc, .int .i64 c.at_, .int .i64 c.turn, .int .u64 c.seq, .bool c.opn, .int .i64 c.kind, .string c.key, .slice D m dc, .int .i64 c.waited, .int .i64 c.retry, .int .i64 c.limit]
def iv (x : Int) : Value := .int .i64 x
structure CalIn (w : World) (c : Cal) (n : Nat) (N : Option Addr) (nc : Nat) (m : Nat) (D : Option Addr) (dc : Nat) : Prop where
  nl : c.nodes.length = n
  nr : Reads w w.heap.size 1 N n (c.nodes.map iv)
  n1 : n ≤ nc
  n2 : nc ≤ maxLen
  dl : c.data.length = m
  dr : Reads w w.heap.size 1 D m (c.data.map bv)
  d1 : m ≤ dc
  d2 : dc ≤ maxLen
  db : Byt c.data
theorem CalIn.later {w w' : World} {c : Cal} {n m : Nat} {N : Option Addr} {nc : Nat} {D : Option Addr} {dc : Nat} (h : CalIn w c n N nc m D dc) (hb : Below w.heap.size w w') : CalIn w' c n N nc m D dc :=
  ⟨h.nl, h.nr.later hb, h.n1, h.n2, h.dl, h.dr.later hb, h.d1, h.d2, h.db⟩
def NodesOk (l : List Int) (k : Nat) : Prop := ∀ i, i < k → 1 ≤ l.getD i 0 ∧ l.getD i 0 ≤ 32 ∧ (l.take i).contains (l.getD i 0) = false
structure May (c : Cal) : Prop where
  c1 : 1 ≤ c.client
  c2 : c.client ≤ 64
  n0 : 0 < c.nodes.length
  r1 : 1 ≤ c.retry
  r2 : c.retry ≤ c.limit
  l1 : c.limit ≤ 100000
  nodes : NodesOk c.nodes c.nodes.length
  a0 : 0 ≤ c.at_
  a1 : c.at_ < c.nodes.length
  t0 : 0 ≤ c.turn
  t1 : c.turn < c.nodes.length
  w0 : 0 ≤ c.waited
  w1 : c.waited ≤ c.limit
  s1 : c.seq < 4611686018427387904
theorem Reads.int_ {w : World} {B n : Nat} {A : Option Addr} {xs : List Int} (h : Reads w B 1 A n (xs.map iv)) {k : Nat} (hk : k < n) :
    ∃ ad, A = some ad ∧ ad.block < B ∧ w.cell? (ad.add k) = some (.int .i64 (xs.getD k 0)) := by
  have hn : xs.length = n := by simpa using h.1
  obtain ⟨ad, u, e, hb, hu, hc⟩ := h.at_ hk
  refine ⟨ad, e, hb, ?_⟩
  rw [List.getElem?_map, List.getElem?_eq_getElem (by omega)] at hu
  rw [hc, ← hu, List.getD_eq_getElem?_getD, List.getElem?_eq_getElem (by omega)]
  rfl
set_option maxRecDepth 100000 in
set_option maxHeartbeats 400000 in
/-- slices.Index of ints: the first place. -/
theorem index_any (A : Option Addr) (n cap : Nat) (xs : List Int) (x : Int) (w : World) (hl : xs.length = n) (HR : Hid (Reads w w.heap.size 1 A n (xs.map iv))) (hm : n ≤ 9223372036854775807) :
    Calls Try.prog 45 #[.slice A n cap, .int .i64 x] w fun e w' => (∃ i : Int, e = .returned (.int .i64 i) ∧ (xs.contains x = false → i = -1) ∧ (xs.contains x = true → 0 ≤ i)) ∧ w = w' := by
  have HL := Lib.hid hl
  clear hl
  go_enter Try.func45, Try.ntmps45
  go_wp2
  go_loopw [5, 8] (fun _ vi wr => ∃ k : Nat, k ≤ n ∧ vi = .int .i64 k ∧ wr = w ∧ Hid ((xs.take k).contains x = false)) (fun _ vi _ => n - (intOf vi).toNat)
  case atStart => exact ⟨0, by omega, rfl, rfl, Lib.hid (by simp)⟩
  case round =>
    obtain ⟨k, hk, rfl, rfl, hz⟩ := hrel
    by_cases hlt : k < n
    · obtain ⟨ad, rfl, _, hc⟩ := HR.out.int_ hlt
      by_cases he : x = xs.getD k 0
      · rw [← he] at hc
        have hin : Hid (xs.contains x = true) := Lib.hid (by
          rw [List.contains_iff_mem, he, List.getD_eq_getElem?_getD, List.getElem?_eq_getElem (by rw [HL.out]; exact hlt)]
          exact List.getElem_mem _)
        clear he
        go_wp2
        go_ret
        exact ⟨⟨_, rfl, (fun h => by rw [hin.out] at h; cases h), fun _ => by omega⟩, rfl⟩
      · obtain ⟨y, hy⟩ : ∃ y, xs.getD k 0 = y := ⟨_, rfl⟩
        rw [hy] at hc he
        have e1 : (x == y) = false := beq_false_of_ne he
        have e2 : decide (x = y) = false := decide_eq_false he
        have H := Lib.hid (show (xs.take (k + 1)).contains x = false from by
          rw [List.take_succ_eq_append_getElem (by rw [HL.out]; exact hlt)]
          have h0 := hz.out
          have h1 : xs[k]'(by rw [HL.out]; exact hlt) = y := by rw [← hy, List.getD_eq_getElem?_getD, List.getElem?_eq_getElem (by rw [HL.out]; exact hlt)]; rfl
          simp only [List.contains_eq_mem, List.mem_append, List.mem_singleton, h1, decide_eq_false_iff_not, not_or] at h0 ⊢
          exact ⟨h0, he⟩)
        clear hy hz
        go_wp2
        exact ⟨⟨k + 1, by omega, by go_num, trivial, H⟩, by simp [intOf]; omega⟩
    · obtain rfl : k = n := by omega
      have hz2 := Lib.hid (show xs.contains x = false from by have := hz.out; rwa [List.take_of_length_le (by rw [HL.out]; exact Nat.le_refl _)] at this)
      clear hz
      go_wp2
      go_ret
      exact ⟨⟨_, rfl, fun _ => rfl, fun h => by rw [hz2.out] at h; cases h⟩, rfl⟩
set_option maxRecDepth 100000 in
set_option maxHeartbeats 400000 in
theorem contains_any (A : Option Addr) (n cap : Nat) (xs : List Int) (x : Int) (w : World) (hl : xs.length = n) (HR : Hid (Reads w w.heap.size 1 A n (xs.map iv))) (hm : n ≤ 9223372036854775807) :
    Calls Try.prog 38 #[.slice A n cap, .int .i64 x] w fun e w' => e = .returned (.bool (xs.contains x)) ∧ w = w' := by
  obtain ⟨b, hb⟩ : ∃ b, xs.contains x = b := ⟨_, rfl⟩
  have HB := Lib.hid hb
  rw [hb]
  clear hb
  go_enter Try.func38, Try.ntmps38
  go_wp2_with (go_at_call 45; refine (index_any A n cap xs x _ hl HR hm).mono ?_; rintro e w1 ⟨⟨i, rfl, h1, h2⟩, rfl⟩; have H1 := Lib.hid h1; have H2 := Lib.hid h2; clear h1 h2)
  go_ret
  refine ⟨?_, rfl⟩
  have h1 := H1.out
  have h2 := H2.out
  rw [HB.out] at h1 h2
  cases b with
  | false => have := h1 rfl; subst this; rfl
  | true =>
    have := h2 rfl
    rw [decide_eq_true this]
    rfl
theorem Try.infoI : (Try.prog.info? 3).map (fun i => (i.zero, i.size, i.bytes)) = some (some (.int .i64 0), 1, 8) := by kernel_rfl
theorem Try.infoB : (Try.prog.info? 5).map (fun i => (i.zero, i.size, i.bytes)) = some (some (.int .u8 0), 1, 1) := by kernel_rfl
theorem Try.infoT : (Try.prog.info? 9).map (fun i => (i.zero, i.size, i.bytes)) = some (some (.string ⟨#[]⟩), 1, 16) := by kernel_rfl
theorem own_below {w w' : World} {base size n : Nat} {t : TypeId} {v : Value} {xs : List Value} (h : w.ownsRow base t size v n xs) (hb : Below w.heap.size w w') : w'.ownsRow base t size v n xs := by
  refine ⟨h.1, ?_⟩
  rcases h.2 with h0 | ⟨g, cap, cur, hv, hg, hc, h1, h2, h3, h4⟩
  · exact .inl h0
  · have hlt : g < w.heap.size := by
      rcases Nat.lt_or_ge g w.heap.size with hlt | hge
      · exact hlt
      · rw [Array.getElem?_eq_none hge] at hc; cases hc
    exact .inr ⟨g, cap, cur, hv, hg, (hb.block g hlt).trans hc, h1, h2, h3, h4⟩
theorem own_base {w : World} {base base' : Nat} {e : TypeId} {size n : Nat} {v : Value} {xs : List Value} (h : w.ownsRow base e size v n xs) (hb : base' ≤ base) : w.ownsRow base' e size v n xs := by
  refine ⟨h.1, ?_⟩
  rcases h.2 with h0 | ⟨g, cap, cur, hv, hg, hr⟩
  · exact .inl h0
  · exact .inr ⟨g, cap, cur, hv, by omega, hr⟩
theorem own_far {w : World} {base size n : Nat} {t : TypeId} {v : Value} {xs : List Value} {p : Addr} (h : w.ownsRow base t size v n xs) (hne : v.ownBlock ≠ some p.block) (u : Value) : (w.setCell p u).ownsRow base t size v n xs :=
  h.kept (row := some p.block) ⟨rfl, rfl, rfl, by simp, fun k _ hk => heap_setCell_other w p k u (fun e => hk (by rw [e]))⟩ (.inr hne)
theorem own_up {w : World} {base size n g : Nat} {t : TypeId} {v : Value} {xs : List Value} (h : w.ownsRow base t size v n xs) (hg : g < base) : v.ownBlock ≠ some g := fun e => by have := (h.lt g e).1; omega
/-- A fresh slice that reads as a list. -/
def RetL (t : TypeId) (n : Nat) (xs : List Value) (w : World) (e : Ending) (w' : World) : Prop :=
  ∃ A cap, e = .returned (.slice A n cap) ∧ n ≤ cap ∧ cap ≤ maxLen ∧ w'.ownsRow w.heap.size t 1 (.slice A n cap) n xs ∧ Below w.heap.size w w'
set_option maxRecDepth 100000 in
set_option maxHeartbeats 400000 in
theorem clone_ints (A : Option Addr) (n cap : Nat) (xs : List Value) (w : World) (HR : Hid (Reads w w.heap.size 1 A n xs)) (h1 : Hid (∀ u ∈ xs, u.oneCell' = true)) (hm : n * 8 ≤ 140737488355328) :
    Calls Try.prog 21 #[.slice A n cap] w (RetL 3 n xs w) := by
  have k0 := fun W : World => Lib.run_eql_slice_nil (P := Try.prog) W 25 3 A n cap 0 0 Try.underlying25
  cases A with
  | none =>
    have h0 : n = 0 := by
      rcases Nat.eq_zero_or_pos n with h | h
      · exact h
      · obtain ⟨ad, h2, _⟩ := HR.out.2 h; cases h2
    subst h0
    have hx : xs = [] := List.eq_nil_of_length_eq_zero (by simpa using HR.out.1)
    subst hx
    go_enter Try.func21, Try.ntmps21
    go_wp2
    go_ret
    exact ⟨none, 0, rfl, Nat.le_refl _, by unfold maxLen; omega, ⟨rfl, .inl ⟨rfl, rfl⟩⟩, Below.refl _ _⟩
  | some ad =>
    go_enter Try.func21, Try.ntmps21
    go_wp2_with (at_builtin
                 refine wpl_append rfl (.tmp 5) (.tmp 6) _ rfl w w.heap.size 3 (.int .i64 0) 1 8 Try.underlying25 Try.infoI rfl (by decide) (.slice (some ⟨w.heap.size, 0, none⟩) 0 0) 0 [] rfl ?own (w.heap.size + 1) (some ad) n cap xs rfl ?rd h1.out (by omega) (by decide) ?bel ?base ?_
                 case own => exact World.ownsRow_lit _ #[] 0 (Nat.le_refl _) (by unfold maxLen; omega) rfl
                 case rd => exact (HR.out.alloc (Nat.le_refl _) _).more (by simp)
                 case bel => exact (Below.refl _ _).alloc (Nat.le_refl _) _
                 case base => simp
                 intro v1 w1 hh)
    go_ret
    obtain ⟨ho, hb, _⟩ := hh.out
    rw [Nat.zero_add, List.nil_append] at ho
    obtain ⟨C, d, rfl, q1, q2⟩ := own_slice ho
    exact ⟨C, d, rfl, q1, q2, ho, hb⟩
set_option maxRecDepth 100000 in
set_option maxHeartbeats 400000 in
theorem clone_bytes (A : Option Addr) (n cap : Nat) (xs : List Value) (w : World) (HR : Hid (Reads w w.heap.size 1 A n xs)) (h1 : Hid (∀ u ∈ xs, u.oneCell' = true)) (hm : n * 1 ≤ 140737488355328) :
    Calls Try.prog 27 #[.slice A n cap] w (RetL 5 n xs w) := by
  have k0 := fun W : World => Lib.run_eql_slice_nil (P := Try.prog) W 33 5 A n cap 0 0 Try.underlying33
  cases A with
  | none =>
    have h0 : n = 0 := by
      rcases Nat.eq_zero_or_pos n with h | h
      · exact h
      · obtain ⟨ad, h2, _⟩ := HR.out.2 h; cases h2
    subst h0
    have hx : xs = [] := List.eq_nil_of_length_eq_zero (by simpa using HR.out.1)
    subst hx
    go_enter Try.func27, Try.ntmps27
    go_wp2
    go_ret
    exact ⟨none, 0, rfl, Nat.le_refl _, by unfold maxLen; omega, ⟨rfl, .inl ⟨rfl, rfl⟩⟩, Below.refl _ _⟩
  | some ad =>
    go_enter Try.func27, Try.ntmps27
    go_wp2_with (at_builtin
                 refine wpl_append rfl (.tmp 5) (.tmp 6) _ rfl w w.heap.size 5 (.int .u8 0) 1 1 Try.underlying33 Try.infoB rfl (by decide) (.slice (some ⟨w.heap.size, 0, none⟩) 0 0) 0 [] rfl ?own (w.heap.size + 1) (some ad) n cap xs rfl ?rd h1.out (by omega) (by decide) ?bel ?base ?_
                 case own => exact World.ownsRow_lit _ #[] 0 (Nat.le_refl _) (by unfold maxLen; omega) rfl
                 case rd => exact (HR.out.alloc (Nat.le_refl _) _).more (by simp)
                 case bel => exact (Below.refl _ _).alloc (Nat.le_refl _) _
                 case base => simp
                 intro v1 w1 hh)
    go_ret
    obtain ⟨ho, hb, _⟩ := hh.out
    rw [Nat.zero_add, List.nil_append] at ho
    obtain ⟨C, d, rfl, q1, q2⟩ := own_slice ho
    exact ⟨C, d, rfl, q1, q2, ho, hb⟩
set_option maxRecDepth 100000 in
set_option maxHeartbeats 400000 in
theorem clone_texts (A : Option Addr) (n cap : Nat) (xs : List Value) (w : World) (HR : Hid (Reads w w.heap.size 1 A n xs)) (h1 : Hid (∀ u ∈ xs, u.oneCell' = true)) (hm : n * 16 ≤ 140737488355328) :
    Calls Try.prog 28 #[.slice A n cap] w (RetL 9 n xs w) := by
  have k0 := fun W : World => Lib.run_eql_slice_nil (P := Try.prog) W 36 9 A n cap 0 0 Try.underlying36
  cases A with
  | none =>
    have h0 : n = 0 := by
      rcases Nat.eq_zero_or_pos n with h | h
      · exact h
      · obtain ⟨ad, h2, _⟩ := HR.out.2 h; cases h2
    subst h0
    have hx : xs = [] := List.eq_nil_of_length_eq_zero (by simpa using HR.out.1)
    subst hx
    go_enter Try.func28, Try.ntmps28
    go_wp2
    go_ret
    exact ⟨none, 0, rfl, Nat.le_refl _, by unfold maxLen; omega, ⟨rfl, .inl ⟨rfl, rfl⟩⟩, Below.refl _ _⟩
  | some ad =>
    go_enter Try.func28, Try.ntmps28
    go_wp2_with (at_builtin
                 refine wpl_append rfl (.tmp 5) (.tmp 6) _ rfl w w.heap.size 9 (.string ⟨#[]⟩) 1 16 Try.underlying36 Try.infoT rfl (by decide) (.slice (some ⟨w.heap.size, 0, none⟩) 0 0) 0 [] rfl ?own (w.heap.size + 1) (some ad) n cap xs rfl ?rd h1.out (by omega) (by decide) ?bel ?base ?_
                 case own => exact World.ownsRow_lit _ #[] 0 (Nat.le_refl _) (by unfold maxLen; omega) rfl
                 case rd => exact (HR.out.alloc (Nat.le_refl _) _).more (by simp)
                 case bel => exact (Below.refl _ _).alloc (Nat.le_refl _) _
                 case base => simp
                 intro v1 w1 hh)
    go_ret
    obtain ⟨ho, hb, _⟩ := hh.out
    rw [Nat.zero_add, List.nil_append] at ho
    obtain ⟨C, d, rfl, q1, q2⟩ := own_slice ho
    exact ⟨C, d, rfl, q1, q2, ho, hb⟩
end Go.Proofs.Ytmamdnikjfmenaa
