/-
  Loads, the program's and the reference's. (printed by gen_gal1.py; the words for members are those of PlW1)
-/
import Derived.Test.YtckmmcklhdfjfaaGaM2
namespace Go.Proofs.Ytckmmcklhdfjfaa
open Go.RowKit
set_option linter.unusedVariables false
abbrev Mem := Int × Int
def mcells (ms : List Mem) : List Value := ms.flatMap fun p => [iv p.1, iv p.2]
theorem mcells_len (ms : List Mem) : (mcells ms).length = ms.length * 2 := by
  unfold mcells
  induction ms with
  | nil => rfl
  | cons a l ih => rw [List.flatMap_cons, List.length_append, ih, List.length_cons]; simp; omega
theorem mcells_get (ms : List Mem) : ∀ k, k < ms.length → (mcells ms)[k * 2]? = some (iv (ms.getD k (0, 0)).1) ∧ (mcells ms)[k * 2 + 1]? = some (iv (ms.getD k (0, 0)).2) := by
  unfold mcells
  induction ms with
  | nil => intro k h; simp at h
  | cons a l ih =>
    intro k h
    rw [List.flatMap_cons]
    cases k with
    | zero => exact ⟨rfl, rfl⟩
    | succ k =>
      have := ih k (by simpa using h)
      rw [show (k + 1) * 2 = k * 2 + 2 from by omega, show k * 2 + 2 + 1 = k * 2 + 1 + 2 from by omega]
      simpa using this
theorem add_next (a : Addr) (i : Nat) : a.add (i + 1) = { block := (a.add i).block, off := (a.add i).off + 1 } := by
  unfold Addr.add
  by_cases h : i = 0
  · subst h; simp
  · simp [h]; omega
/-- A row of members: member k's cells. -/
theorem Reads.mem {w : World} {B n : Nat} {A : Option Addr} {ms : List Mem} (h : Reads w B 2 A n (mcells ms)) {k : Nat} (hk : k < n) :
    ∃ ad, A = some ad ∧ ad.block < B ∧ w.cell? (ad.add (k * 2)) = some (.int .i64 (ms.getD k (0, 0)).1) ∧ w.cell? { block := (ad.add (k * 2)).block, off := (ad.add (k * 2)).off + 1 } = some (.int .i64 (ms.getD k (0, 0)).2) := by
  have hl := h.1
  rw [mcells_len] at hl
  obtain ⟨ad, e, hb, hc⟩ := h.2 (by omega)
  have hg := mcells_get ms k (by omega)
  exact ⟨ad, e, hb, hc _ _ hg.1, by rw [← add_next]; exact hc _ _ hg.2⟩
def M64 (ms : List Mem) : Prop := ∀ x ∈ ms, (-9223372036854775808 ≤ x.1 ∧ x.1 ≤ 9223372036854775807) ∧ (-9223372036854775808 ≤ x.2 ∧ x.2 ≤ 9223372036854775807)
theorem M64.get {ms : List Mem} (h : M64 ms) {k : Nat} (hk : k < ms.length) : (-9223372036854775808 ≤ (ms.getD k (0, 0)).1 ∧ (ms.getD k (0, 0)).1 ≤ 9223372036854775807) ∧ (-9223372036854775808 ≤ (ms.getD k (0, 0)).2 ∧ (ms.getD k (0, 0)).2 ≤ 9223372036854775807) := by
  rw [List.getD_eq_getElem?_getD, List.getElem?_eq_getElem hk]
  exact h _ (List.getElem_mem hk)
/-- A map as a value. -/
def mapV (e : Nat) (A : Option Addr) (n cap : Nat) : Value := .agg #[.int .u64 (e : Int), .slice A n cap]

def ldc (ms : List Mem) (cs : List Int) (k : Nat) : Option Nat := ratio (cls (fl (cs.getD k 0))) (cls (fl (ms.getD k (0, 0)).2))
def lds (ms : List Mem) (cs : List Int) (n : Nat) : List (Option Nat) := (List.range n).map (ldc ms cs)
theorem lds_succ (ms : List Mem) (cs : List Int) (n : Nat) : lds ms cs (n + 1) = lds ms cs n ++ [ldc ms cs n] := by unfold lds; rw [List.range_succ, List.map_append]; rfl
theorem lds_len (ms : List Mem) (cs : List Int) (n : Nat) : (lds ms cs n).length = n := by simp [lds]
theorem own_base {w : World} {b b' : Nat} {t : TypeId} {n : Nat} {v : Value} {xs : List Value} (h : w.ownsRow b t 1 v n xs) (hb : b' ≤ b) : w.ownsRow b' t 1 v n xs := by
  refine ⟨h.1, ?_⟩
  rcases h.2 with h0 | ⟨g, cap, cur, h1, h2, h3⟩
  · exact .inl h0
  · exact .inr ⟨g, cap, cur, h1, Nat.le_trans hb h2, h3⟩
/-- Floats whose classes are these, in a row of the call's own. -/
structure Fs (w : World) (cl : List (Option Nat)) (v : Value) (rs : List Nat) (wr : World) : Prop where
  ap : Ap w 23 v (rs.map fv) wr
  fl : Fl rs
  cl : rs.map cls = cl
theorem Fs.start (w : World) : Fs w [] (.slice none 0 0) [] w := ⟨Ap.start _ _, (fun x hx => by cases hx), rfl⟩
theorem Fs.len {w wr : World} {cl : List (Option Nat)} {v : Value} {rs : List Nat} (h : Fs w cl v rs wr) : rs.length = cl.length := by rw [← h.cl]; simp
theorem Fs.later {w wr w' : World} {cl : List (Option Nat)} {v : Value} {rs : List Nat} (h : Fs w cl v rs wr) (hb : Below wr.heap.size wr w') : Fs w cl v rs w' := ⟨h.ap.later hb, h.fl, h.cl⟩
theorem Fs.push {w wr w' : World} {cl : List (Option Nat)} {v v' : Value} {rs : List Nat} {r : Nat} {c : Option Nat} (h : Fs w cl v rs wr) (hr : r < 2 ^ 64) (hc : cls r = c) (hA : Ap w 23 v' (rs.map fv ++ [.float .f64 r]) w') : Fs w (cl ++ [c]) v' (rs ++ [r]) w' := by
  refine ⟨by simpa [fv] using hA, ?_, by rw [List.map_append, h.cl, ← hc]; rfl⟩
  intro x hx
  rcases List.mem_append.1 hx with h1 | h1
  · exact h.fl x h1
  · rw [List.mem_singleton.1 h1]; exact hr
def RetFs (cl : List (Option Nat)) (w : World) (e : Ending) (w' : World) : Prop := ∃ v rs, e = .returned v ∧ Fs w cl v rs w'
set_option maxRecDepth 100000 in
set_option maxHeartbeats 4000000 in
theorem loads_any (e : Nat) (A : Option Addr) (n cap : Nat) (ms : List Mem) (C : Option Addr) (m cc : Nat) (cs : List Int) (w : World) (HR : Hid (Reads w w.heap.size 2 A n (mcells ms))) (HC : Hid (Reads w w.heap.size 1 C m (cs.map iv)))
    (hl : Hid (ms.length = n)) (hcl : Hid (cs.length = m)) (hn : n * 16 ≤ 140737488351232) (hm : m ≤ 9223372036854775807) :
    Calls Try.prog 18 #[mapV e A n cap, .slice C m cc] w (RetFs (lds ms cs n) w) := by
  obtain ⟨w1, ew1⟩ : ∃ w1, w.alloc (.cells #[.int .u64 (e : Int), .slice A n cap] 37) = w1 := ⟨_, rfl⟩
  have hb1 : Below w.heap.size w w1 := by rw [← ew1]; exact (Below.refl _ _).alloc (Nat.le_refl _) _
  have HB1 := Lib.hid hb1
  have hst0 := Lib.hid (Fs.start w1)
  have hx : Blk w1 w.heap.size 37 #[.int .u64 (e : Int), .slice A n cap] := by rw [← ew1]; exact Blk.new w _ _
  have hx0 : w1.cell? ⟨w.heap.size, 0, none⟩ = some (.int .u64 (e : Int)) := hx.cell 0
  have hx1 : w1.cell? ⟨w.heap.size, 1, none⟩ = some (.slice A n cap) := hx.cell 1
  clear hb1 hx
  unfold mapV
  go_enter Try.func18, Try.ntmps18
  go_wp2
  clear ew1 hx0 hx1
  go_loopw [5, 6, 7, 8, 12] (fun vo _ _ _ vi wr => ∃ k : Nat, ∃ rs : List Nat, k ≤ n ∧ vi = .int .i64 k ∧ Hid (Fs w1 (lds ms cs k) vo rs wr)) (fun _ _ _ _ vi _ => n - (intOf vi).toNat)
  case atStart => exact ⟨0, [], by omega, rfl, hst0⟩
  case round =>
    obtain ⟨k, rs, hk, rfl, hst⟩ := hrel
    clear hst0
    by_cases hlt : k < n
    · have d1 : decide (k < n) = true := decide_eq_true hlt
      have hbr := HB1.out.trans (hst.out.ap.bel.mono HB1.out.size)
      obtain ⟨a1, rfl, hb1, hc1, hc2⟩ := (HR.out.below hbr).mem hlt
      have HS := Lib.hid (lds_succ ms cs k)
      unfold ldc at HS
      obtain ⟨x, ex⟩ : ∃ x, ms.getD k (0, 0) = x := ⟨_, rfl⟩
      rw [ex] at hc1 hc2 HS
      obtain ⟨id, wt⟩ := x
      simp only at hc1 hc2 HS
      clear ex
      by_cases hkm : k < m
      · have d2 : decide (k < m) = true := decide_eq_true hkm
        obtain ⟨a2, rfl, hb2, hc3⟩ := (HC.out.below hbr).int_ hkm
        obtain ⟨c, ec⟩ : ∃ c, cs.getD k 0 = c := ⟨_, rfl⟩
        rw [ec] at hc3 HS
        clear ec
        have hc4 : (wr.alloc (.cells #[.int .i64 id, .int .i64 wt] 39)).cell? (a2.add k) = some (.int .i64 c) := (World.cell?_alloc_lt wr _ _ (by rw [block_of_add]; have := hbr.size; omega)).trans hc3
        have HF := fun d => Lib.hid (hst.out.later (bel_drewN ((Below.refl _ _).alloc (Nat.le_refl _) (.cells #[.int .i64 id, .int .i64 wt] 39)) d))
        have HLN := Lib.hid (show rs.length = k from by rw [hst.out.len, lds_len])
        clear hst
        go_wp2_with (first
          | (go_at_call 12; refine (ratio_any _ _ _).mono ?_; rintro e w5 ⟨r, d, rfl, hcr, hr, hw5⟩; have HCR := Lib.hid hcr; have HFd := HF d; rw [← hw5] at HFd; clear hcr hc4 hc3 hw5 HF)
          | (at_builtin
             refine wpl_ap rfl _ _ 22 23 _ Try.underlying22 Try.infoF64 rfl rfl HFd.out.ap (by rw [List.length_map, HLN.out]; omega) (.float .f64 r) rfl rfl rfl ?_
             intro v6 w6 hst6))
        exact ⟨⟨k + 1, _, by omega, by go_num, Lib.hid (by rw [HS.out]; exact HFd.out.push hr HCR.out hst6.out)⟩, by simp [intOf]; omega⟩
      · have d2 : decide (k < m) = false := decide_eq_false hkm
        have ec : cs.getD k 0 = 0 := by rw [List.getD_eq_getElem?_getD, List.getElem?_eq_none (by have := hcl.out; omega)]; rfl
        rw [ec] at HS
        clear ec
        have HF := fun d => Lib.hid (hst.out.later (bel_drewN ((Below.refl _ _).alloc (Nat.le_refl _) (.cells #[.int .i64 id, .int .i64 wt] 39)) d))
        have HLN := Lib.hid (show rs.length = k from by rw [hst.out.len, lds_len])
        clear hst
        go_wp2_with (first
          | (go_at_call 12; refine (ratio_any _ _ _).mono ?_; rintro e w5 ⟨r, d, rfl, hcr, hr, hw5⟩; have HCR := Lib.hid hcr; have HFd := HF d; rw [← hw5] at HFd; clear hcr hw5 HF)
          | (at_builtin
             refine wpl_ap rfl _ _ 22 23 _ Try.underlying22 Try.infoF64 rfl rfl HFd.out.ap (by rw [List.length_map, HLN.out]; omega) (.float .f64 r) rfl rfl rfl ?_
             intro v6 w6 hst6))
        exact ⟨⟨k + 1, _, by omega, by go_num, Lib.hid (by rw [HS.out]; exact HFd.out.push hr HCR.out hst6.out)⟩, by simp [intOf]; omega⟩
    · obtain rfl : n = k := by omega
      go_wp2
      go_ret
      exact ⟨_, rs, rfl, ⟨own_base hst.out.ap.own HB1.out.size, HB1.out.trans (hst.out.ap.bel.mono HB1.out.size)⟩, hst.out.fl, hst.out.cl⟩
set_option maxRecDepth 100000 in
set_option maxHeartbeats 4000000 in
theorem rloads_any (e : Nat) (A : Option Addr) (n cap : Nat) (ms : List Mem) (C : Option Addr) (m cc : Nat) (cs : List Int) (w : World) (HR : Hid (Reads w w.heap.size 2 A n (mcells ms))) (HC : Hid (Reads w w.heap.size 1 C m (cs.map iv)))
    (hl : Hid (ms.length = n)) (hcl : Hid (cs.length = m)) (hn : n * 16 ≤ 140737488351232) (hm : m ≤ 9223372036854775807) :
    Calls Try.prog 19 #[mapV e A n cap, .slice C m cc] w (RetFs (lds ms cs n) w) := by
  obtain ⟨w1, ew1⟩ : ∃ w1, w.alloc (.cells #[.int .u64 (e : Int), .slice A n cap] 37) = w1 := ⟨_, rfl⟩
  have hb1 : Below w.heap.size w w1 := by rw [← ew1]; exact (Below.refl _ _).alloc (Nat.le_refl _) _
  have HB1 := Lib.hid hb1
  have hst0 := Lib.hid (Fs.start w1)
  have hx : Blk w1 w.heap.size 37 #[.int .u64 (e : Int), .slice A n cap] := by rw [← ew1]; exact Blk.new w _ _
  have HX := Lib.hid hx
  have HZ := Lib.hid (show w.heap.size < w1.heap.size from hx.lt)
  clear hb1 hx
  unfold mapV
  go_enter Try.func19, Try.ntmps19
  go_wp2
  clear ew1
  go_loopw [5, 6, 7] (fun vo vi _ wr => ∃ k : Nat, ∃ rs : List Nat, k ≤ n ∧ vi = .int .i64 k ∧ Hid (Fs w1 (lds ms cs k) vo rs wr)) (fun _ vi _ _ => n - (intOf vi).toNat)
  case atStart => exact ⟨0, [], by omega, rfl, hst0⟩
  case round =>
    obtain ⟨k, rs, hk, rfl, hst⟩ := hrel
    clear hst0
    have hx1 : wr.cell? ⟨w.heap.size, 1, none⟩ = some (.slice A n cap) := (HX.out.below hst.out.ap.bel HZ.out).cell 1
    by_cases hlt : k < n
    · have d1 : decide (k < n) = true := decide_eq_true hlt
      have hbr := HB1.out.trans (hst.out.ap.bel.mono HB1.out.size)
      obtain ⟨a1, rfl, hb1, hc1, hc2⟩ := (HR.out.below hbr).mem hlt
      have HS := Lib.hid (lds_succ ms cs k)
      unfold ldc at HS
      obtain ⟨x, ex⟩ : ∃ x, ms.getD k (0, 0) = x := ⟨_, rfl⟩
      rw [ex] at hc1 hc2 HS
      obtain ⟨id, wt⟩ := x
      simp only at hc1 hc2 HS
      clear ex
      by_cases hkm : k < m
      · have d2 : decide (k < m) = true := decide_eq_true hkm
        obtain ⟨a2, rfl, hb2, hc3⟩ := (HC.out.below hbr).int_ hkm
        obtain ⟨c, ec⟩ : ∃ c, cs.getD k 0 = c := ⟨_, rfl⟩
        rw [ec] at hc3 HS
        clear ec
        have HF := fun d => Lib.hid (hst.out.later (bel_drewN (Below.refl _ _) d))
        have HLN := Lib.hid (show rs.length = k from by rw [hst.out.len, lds_len])
        clear hst
        go_wp2_with (first
          | (go_at_call 13; refine (rratio_any _ _ _).mono ?_; rintro e w5 ⟨r, d, rfl, hcr, hr, hw5⟩; have HCR := Lib.hid hcr; have HFd := HF d; rw [← hw5] at HFd; clear hcr hw5 HF)
          | (at_builtin
             refine wpl_ap rfl _ _ 22 23 _ Try.underlying22 Try.infoF64 rfl rfl HFd.out.ap (by rw [List.length_map, HLN.out]; omega) (.float .f64 r) rfl rfl rfl ?_
             intro v6 w6 hst6))
        exact ⟨⟨k + 1, _, by omega, by go_num, Lib.hid (by rw [HS.out]; exact HFd.out.push hr HCR.out hst6.out)⟩, by simp [intOf]; omega⟩
      · have d2 : decide (k < m) = false := decide_eq_false hkm
        have ec : cs.getD k 0 = 0 := by rw [List.getD_eq_getElem?_getD, List.getElem?_eq_none (by have := hcl.out; omega)]; rfl
        rw [ec] at HS
        clear ec
        have HF := fun d => Lib.hid (hst.out.later (bel_drewN (Below.refl _ _) d))
        have HLN := Lib.hid (show rs.length = k from by rw [hst.out.len, lds_len])
        clear hst
        go_wp2_with (first
          | (go_at_call 13; refine (rratio_any _ _ _).mono ?_; rintro e w5 ⟨r, d, rfl, hcr, hr, hw5⟩; have HCR := Lib.hid hcr; have HFd := HF d; rw [← hw5] at HFd; clear hcr hw5 HF)
          | (at_builtin
             refine wpl_ap rfl _ _ 22 23 _ Try.underlying22 Try.infoF64 rfl rfl HFd.out.ap (by rw [List.length_map, HLN.out]; omega) (.float .f64 r) rfl rfl rfl ?_
             intro v6 w6 hst6))
        exact ⟨⟨k + 1, _, by omega, by go_num, Lib.hid (by rw [HS.out]; exact HFd.out.push hr HCR.out hst6.out)⟩, by simp [intOf]; omega⟩
    · obtain rfl : n = k := by omega
      go_wp2
      go_ret
      exact ⟨_, rs, rfl, ⟨own_base hst.out.ap.own HB1.out.size, HB1.out.trans (hst.out.ap.bel.mono HB1.out.size)⟩, hst.out.fl, hst.out.cl⟩
end Go.Proofs.Ytckmmcklhdfjfaa
