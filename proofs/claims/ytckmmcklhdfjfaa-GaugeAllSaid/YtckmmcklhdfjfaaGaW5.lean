/-
  The library's insertion sort with Order's closure.
-/
import Derived.Test.YtckmmcklhdfjfaaGaW4
namespace Go.Proofs.Ytckmmcklhdfjfaa
open Go.RowKit
set_option linter.unusedVariables false
/-- Row g holds f at its first n places. -/
def RowF (w : World) (g n : Nat) (f : Nat → Nat) : Prop := ∃ cs : Array Value, Blk w g 3 cs ∧ n ≤ cs.size ∧ ∀ i, i < n → cs[i]? = some (.int .i64 (f i : Nat))
def put (f : Nat → Nat) (i x : Nat) : Nat → Nat := fun k => if k = i then x else f k
def swp (f : Nat → Nat) (i j : Nat) : Nat → Nat := put (put f i (f j)) j (f i)
section
variable {w w' w'' : World} {g n : Nat} {f : Nat → Nat}
theorem RowF.cell (h : RowF w g n f) {i : Nat} (hi : i < n) : w.cell? ⟨g, i, none⟩ = some (.int .i64 (f i : Nat)) := by
  obtain ⟨cs, hb, hs, hc⟩ := h
  rw [hb.cell i, hc i hi]
theorem RowF.frozen (h : RowF w g n f) (i : Nat) : w.frozen? ⟨g, i, none⟩ = false := by
  obtain ⟨cs, hb, hs, hc⟩ := h
  exact hb.frozen i
theorem RowF.lt (h : RowF w g n f) : g < w.heap.size := by
  obtain ⟨cs, hb, hs, hc⟩ := h
  exact hb.lt
theorem RowF.set_ (h : RowF w g n f) {i : Nat} (hi : i < n) (x : Nat) : RowF (w.setCell ⟨g, i, none⟩ (.int .i64 (x : Nat))) g n (put f i x) := by
  obtain ⟨cs, hb, hs, hc⟩ := h
  refine ⟨_, hb.set_ i _, by simpa using hs, fun k hk => ?_⟩
  unfold put
  by_cases e : k = i
  · subst e
    rw [if_pos rfl, Array.getElem?_setIfInBounds_self_of_lt (by omega)]
  · rw [if_neg e, Array.getElem?_setIfInBounds_ne (fun h => e h.symm)]
    exact hc k hk
theorem RowF.below {B : Nat} (h : RowF w g n f) (hb : Below B w w') (hg : g < B) : RowF w' g n f := by
  obtain ⟨cs, hB, hs, hc⟩ := h
  exact ⟨cs, hB.below hb hg, hs, hc⟩
theorem RowF.drewN (h : RowF w g n f) (d : Nat) : RowF (w.drewN d) g n f := h
/-- What is there stays as it is, but for block g. -/
structure Keep (g : Nat) (w w' : World) : Prop where
  os : w'.os = w.os
  tape : w'.tape = w.tape
  output : w'.output = w.output
  size : w.heap.size ≤ w'.heap.size
  block : ∀ k, k < w.heap.size → k ≠ g → w'.heap[k]? = w.heap[k]?
theorem Keep.refl (g : Nat) (w : World) : Keep g w w := ⟨rfl, rfl, rfl, Nat.le_refl _, fun _ _ _ => rfl⟩
theorem Keep.trans (h : Keep g w w') (k : Keep g w' w'') : Keep g w w'' := ⟨k.os.trans h.os, k.tape.trans h.tape, k.output.trans h.output, Nat.le_trans h.size k.size, fun i hi hg => (k.block i (Nat.lt_of_lt_of_le hi h.size) hg).trans (h.block i hi hg)⟩
theorem Keep.below (h : Keep g w w') (k : Below w'.heap.size w' w'') : Keep g w w'' := h.trans ⟨k.os, k.tape, k.output, k.size, fun i hi _ => k.block i hi⟩
theorem Keep.set_ (h : Keep g w w') (i : Nat) (u : Value) : Keep g w (w'.setCell ⟨g, i, none⟩ u) := h.trans ⟨rfl, rfl, rfl, by simp, fun k _ hk => heap_setCell_other w' ⟨g, i, none⟩ k u hk⟩
theorem Keep.drewN (h : Keep g w w') (d : Nat) : Keep g w (w'.drewN d) := ⟨h.os, h.tape, h.output, h.size, h.block⟩
theorem Keep.to_below {B : Nat} (h : Keep g w w') (hB : B ≤ w.heap.size) (hg : B ≤ g) : Below B w w' := ⟨h.os, h.tape, h.output, h.size, fun k hk => h.block k (by omega) (by omega)⟩
theorem Keep.cell (h : Keep g w w') {p : Addr} (hl : p.block < w.heap.size) (hp : p.block ≠ g) : w'.cell? p = w.cell? p := World.cell?_of_block (h.block p.block hl hp)
theorem Keep.reads {size m : Nat} {A : Option Addr} {xs : List Value} (h : Keep g w w') (hr : Reads w w.heap.size size A m xs) (hne : ∀ ad, A = some ad → ad.block ≠ g) : Reads w' w'.heap.size size A m xs :=
  ⟨hr.1, fun hn => by
    obtain ⟨ad, e, hb, hc⟩ := hr.2 hn
    refine ⟨ad, e, Nat.lt_of_lt_of_le hb h.size, fun j u hu => ?_⟩
    rw [h.cell (p := ad.add j) (by rw [block_of_add]; exact hb) (by rw [block_of_add]; exact hne ad e)]
    exact hc j u hu⟩
end
/-! ### The law of it -/
def ltc (l : List Nat) (x y : Nat) : Bool := decide (cfl l x y < 0)
def insIn (l : List Nat) (a : Nat) : Nat → (Nat → Nat) → (Nat → Nat)
  | 0, f => f
  | j + 1, f => if a < j + 1 ∧ ltc l (f (j + 1)) (f j) = true then insIn l a j (swp f (j + 1) j) else f
def insTo (l : List Nat) (a : Nat) : Nat → (Nat → Nat) → (Nat → Nat)
  | 0, f => f
  | k + 1, f => insIn l a (a + k + 1) (insTo l a k f)
theorem insIn_stop {l : List Nat} {a j : Nat} {f : Nat → Nat} (h : j ≤ a) : insIn l a j f = f := by
  cases j with
  | zero => rfl
  | succ j => unfold insIn; rw [if_neg (by omega)]
theorem insIn_go {l : List Nat} {a j : Nat} {f : Nat → Nat} (ha : a < j + 1) (h : ltc l (f (j + 1)) (f j) = true) : insIn l a (j + 1) f = insIn l a j (swp f (j + 1) j) := by
  rw [insIn, if_pos ⟨ha, h⟩]
theorem insIn_at (l : List Nat) (a j jp : Nat) (f : Nat → Nat) (hj : jp + 1 = j) (ha : a < j) : insIn l a j f = if cfl l (f j) (f jp) < 0 then insIn l a jp (swp f j jp) else f := by
  subst hj
  rw [insIn]
  by_cases h : cfl l (f (jp + 1)) (f jp) < 0
  · rw [if_pos ⟨ha, decide_eq_true h⟩, if_pos h]
  · rw [if_neg (fun e => h (of_decide_eq_true e.2)), if_neg h]
theorem insIn_end {l : List Nat} {a j : Nat} {f : Nat → Nat} (h : ltc l (f (j + 1)) (f j) = false) : insIn l a (j + 1) f = f := by
  rw [insIn, if_neg (by rw [h]; simp)]
def Lies (n : Nat) (f : Nat → Nat) : Prop := ∀ i, i < n → f i < n
theorem Lies.swp {n : Nat} {f : Nat → Nat} (h : Lies n f) {i j : Nat} (hi : i < n) (hj : j < n) : Lies n (swp f i j) := by
  intro k hk
  show (put (put f i (f j)) j (f i)) k < n
  unfold put
  split
  · exact h i hi
  · split
    · exact h j hj
    · exact h k hk
/-- What the closure leans on. -/
structure ClIn (w : World) (A : Option Addr) (n cap : Nat) (l : List Nat) (B g : Nat) : Prop where
  rd : Reads w w.heap.size 1 A n (l.map fv)
  bx : w.cell? ⟨B, 0, none⟩ = some (.slice A n cap)
  bl : B < w.heap.size
  ne : B ≠ g
  na : ∀ ad, A = some ad → ad.block ≠ g
theorem ClIn.keep {w w' : World} {A : Option Addr} {n cap : Nat} {l : List Nat} {B g : Nat} (h : ClIn w A n cap l B g) (k : Keep g w w') : ClIn w' A n cap l B g :=
  ⟨k.reads h.rd h.na, (k.cell (p := ⟨B, 0, none⟩) h.bl h.ne).trans h.bx, Nat.lt_of_lt_of_le h.bl k.size, h.ne, h.na⟩
structure St (w0 : World) (g n : Nat) (f : Nat → Nat) (w : World) : Prop where
  row : RowF w g n f
  keep : Keep g w0 w
  lies : Lies n f
theorem St.below {w0 w w' : World} {g n : Nat} {f : Nat → Nat} (h : St w0 g n f w) (hb : Below w.heap.size w w') : St w0 g n f w' := ⟨h.row.below hb h.row.lt, h.keep.below hb, h.lies⟩
theorem St.drewN {w0 w : World} {g n : Nat} {f : Nat → Nat} (h : St w0 g n f w) (d : Nat) : St w0 g n f (w.drewN d) := ⟨h.row, h.keep.drewN d, h.lies⟩
theorem St.swap {w0 w : World} {g n : Nat} {f : Nat → Nat} (h : St w0 g n f w) {i j : Nat} (hi : i < n) (hj : j < n) : St w0 g n (swp f i j) ((w.setCell ⟨g, i, none⟩ (.int .i64 (f j : Nat))).setCell ⟨g, j, none⟩ (.int .i64 (f i : Nat))) :=
  ⟨(h.row.set_ hi (f j)).set_ hj (f i), (h.keep.set_ i _).set_ j _, h.lies.swp hi hj⟩
set_option maxRecDepth 100000 in
set_option maxHeartbeats 4000000 in
theorem insertion_any (A : Option Addr) (n cap : Nat) (l : List Nat) (B g rc a b : Nat) (f : Nat → Nat) (w : World) (hF : Hid (Fl l)) (hC : Hid (ClIn w A n cap l B g)) (hS : Hid (St w g n f w)) (hab : a ≤ b) (hb : b ≤ n) (hn : n < 4611686018427387904) :
    Calls Try.prog 45 #[.slice (some ⟨g, 0, none⟩) n rc, .int .i64 (a : Int), .int .i64 (b : Int), .func (.func 33) #[] #[.pointer (some ⟨B, 0, none⟩)]] w
      fun e w' => e = .returned (.tuple #[]) ∧ St w g n (insTo l a (b - a - 1) f) w' := by
  go_enter Try.func45, Try.ntmps45
  go_wp2
  go_loopw [8, 9] (fun vi _ wr => ∃ k : Nat, (k = 0 ∨ a + k < b) ∧ vi = .int .i64 ((a + k + 1 : Nat) : Int) ∧ Hid (St w g n (insTo l a k f) wr)) (fun vi _ _ => b - (intOf vi).toNat)
  case atStart => exact ⟨0, .inl rfl, by go_num, hS⟩
  case round =>
    obtain ⟨k, hk, rfl, HS⟩ := hrel
    by_cases hlt : a + k + 1 < b
    · have d1 : decide ((a : Int) + (k : Int) + 1 < (b : Int)) = true := decide_eq_true (by omega)
      obtain ⟨i, hi⟩ : ∃ i, a + k + 1 = i := ⟨_, rfl⟩
      rw [hi]
      have d3 : decide (i < b) = true := decide_eq_true (by omega)
      have d4 : decide ((i : Int) < (b : Int)) = true := decide_eq_true (by omega)
      go_wp2
      go_loopw [9] (fun vj wr => ∃ (j : Nat) (fj : Nat → Nat), vj = .int .i64 j ∧ a ≤ j ∧ j ≤ i ∧ Hid (St w g n fj wr) ∧ Hid (insIn l a j fj = insTo l a (k + 1) f)) (fun vj _ => (intOf vj).toNat)
      case atStart => exact ⟨i, _, rfl, by omega, Nat.le_refl _, HS, Lib.hid (by rw [← hi]; rfl)⟩
      case round =>
        obtain ⟨j, fj, rfl, haj, hji, HSj, HI⟩ := hrel
        clear HS
        by_cases hja : a < j
        · obtain ⟨jp, hjp⟩ : ∃ q, q + 1 = j := ⟨j - 1, by omega⟩
          have hzj : (j : Int) = (jp : Int) + 1 := by omega
          have hjn : j < n := by omega
          have hpn : jp < n := by omega
          have c1 := HSj.out.row.cell hjn
          have c2 := HSj.out.row.cell hpn
          have HCL := Lib.hid (fun W (h : Below wr.heap.size wr W) => closure_any A n cap l B (fj j) (fj jp) W (Lib.hid ((hC.out.keep HSj.out.keep).rd.later h)) hF (by omega) (cell_later h (hC.out.keep HSj.out.keep).bx) (HSj.out.lies j hjn) (HSj.out.lies jp hpn))
          have hjaz : (a : Int) < (j : Int) := by omega
          have hjad : decide ((jp : Int) + 1 > (a : Int)) = true := decide_eq_true (by omega)
          have hjaz' : (a : Int) < (jp : Int) + 1 := by omega
          obtain ⟨iN, hiN⟩ : ∃ q, q = j := ⟨_, rfl⟩
          obtain ⟨jN, hjN⟩ : ∃ q, q = jp := ⟨_, rfl⟩
          have ea : ((jp : Int) + 1).toNat = iN := by omega
          have pa : (0 : Int) ≤ (jp : Int) + 1 := by omega
          have ba : (jp : Int) + 1 < (n : Int) := by omega
          have ra : IntKind.i64.wrap ((jp : Int) + 1) = (jp : Int) + 1 := by rw [IntKind.wrap_i64]; omega
          have ec : ((jp : Int)).toNat = jN := by omega
          have pc : (0 : Int) ≤ (jp : Int) := by omega
          have bc : (jp : Int) < (n : Int) := by omega
          have rc1 : IntKind.i64.wrap ((jp : Int)) = (jp : Int) := by rw [IntKind.wrap_i64]; omega
          have HLT := Lib.hid (insIn_at l a j jp fj hjp hja)
          obtain ⟨x, ex⟩ : ∃ x, fj j = x := ⟨_, rfl⟩
          obtain ⟨y, ey⟩ : ∃ y, fj jp = y := ⟨_, rfl⟩
          rw [ex, ey] at HLT HCL
          rw [ex] at c1
          rw [ey] at c2
          rw [← hiN] at c1
          rw [← hjN] at c2
          have hdc : decide (cfl l x y < 0) = true ∨ decide (cfl l x y < 0) = false := by cases decide (cfl l x y < 0) <;> simp
          obtain ⟨cv, ecv⟩ : ∃ cv, cfl l x y = cv := ⟨_, rfl⟩
          rw [ecv] at HLT HCL
          rw [ecv] at hdc
          have HX := Lib.hid ex
          have HY := Lib.hid ey
          have HiN := Lib.hid hiN
          have HjN := Lib.hid hjN
          clear ex ey hiN hjN
          rcases hdc with hd | hd
          · have hv : cv < 0 := of_decide_eq_true hd
            go_wp2_with fail
            go_region_held3 (fun w' => w'.cell? ⟨g, iN, none⟩ = some (.int .i64 (x : Int)) ∧ w'.cell? ⟨g, jN, none⟩ = some (.int .i64 (y : Int))) (first | exact ⟨c1, c2⟩ | exact ⟨k1, k2⟩ | fail) (first
              | (go_at_call 33; refine (HCL.out _ (by first | exact Below.refl _ _ | exact ⟨rfl, rfl, rfl, Nat.le_refl _, fun _ _ => rfl⟩)).mono ?_; rintro e w3 ⟨rfl, hb3⟩; have k1 := cell_later hb3 c1; have k2 := cell_later hb3 c2))
            have HS3 := Lib.hid (HSj.out.below (undrew hb3))
            have fa := HS3.out.row.frozen iN
            have fb := HS3.out.row.frozen jN
            obtain ⟨u3, c3⟩ : ∃ u3, (w3.setCell ⟨g, iN, none⟩ (.int .i64 (y : Nat))).cell? ⟨g, jN, none⟩ = some u3 := ⟨_, (HS3.out.row.set_ (i := iN) (by have := HiN.out; omega) y).cell (i := jN) (by have := HjN.out; omega)⟩
            have HS4 := Lib.hid (HS3.out.swap hjn hpn)
            rw [HX.out, HY.out, ← HiN.out, ← HjN.out] at HS4
            clear hb3 c1 c2 HS3 HCL HSj
            go_wp2_with fail
            go_big_region
            clear k1 k2 c3 fa fb
            have HS5 : Hid (St w g n (swp fj j jp) ((w3.setCell ⟨g, iN, none⟩ (.int .i64 (y : Nat))).setCell ⟨g, jN, none⟩ (.int .i64 (x : Nat))).drew) := Lib.hid (by have h := HS4.out.drewN 1; rw [HiN.out, HjN.out] at h ⊢; exact h)
            clear HS4
            go_wp2
            exact ⟨⟨jp, swp fj j jp, rfl, by omega, by omega, HS5, Lib.hid (by rw [← HI.out, HLT.out, if_pos hv])⟩, by simp [intOf]; omega⟩
          · have hv : ¬ cv < 0 := of_decide_eq_false hd
            go_wp2_with fail
            go_region_held3 (fun w' => w'.cell? ⟨g, iN, none⟩ = some (.int .i64 (x : Int)) ∧ w'.cell? ⟨g, jN, none⟩ = some (.int .i64 (y : Int))) (first | exact ⟨c1, c2⟩ | exact ⟨k1, k2⟩ | fail) (first
              | (go_at_call 33; refine (HCL.out _ (by first | exact Below.refl _ _ | exact ⟨rfl, rfl, rfl, Nat.le_refl _, fun _ _ => rfl⟩)).mono ?_; rintro e w3 ⟨rfl, hb3⟩; have k1 := cell_later hb3 c1; have k2 := cell_later hb3 c2))
            have HS3 := Lib.hid (HSj.out.below (undrew hb3))
            clear hb3 c1 c2 k1 k2 HCL HSj
            go_wp2
            exact ⟨⟨k + 1, .inr (by omega), by go_num, by rw [← HI.out, HLT.out, if_neg (by omega)]; exact HS3⟩, by simp [intOf]; omega⟩
        · have hjaz : decide ((j : Int) > (a : Int)) = false := decide_eq_false (by omega)
          have hjaz' : ¬ (a : Int) < (j : Int) := by omega
          have HE := Lib.hid (insIn_stop (l := l) (f := fj) (show j ≤ a by omega))
          go_wp2_with fail
          go_big_region
          have HS5 := Lib.hid (HSj.out.drewN 1)
          clear HSj
          go_wp2
          exact ⟨⟨k + 1, .inr (by omega), by go_num, by rw [← HI.out, HE.out]; exact HS5⟩, by simp [intOf]; omega⟩
    · have HE := Lib.hid (show k = b - a - 1 from by omega)
      go_wp2
      go_end0
      exact ⟨rfl, by rw [← HE.out]; exact HS.out⟩
end Go.Proofs.Ytckmmcklhdfjfaa
