/-
  GfRoots holds for every row of roots and every element: a product of linear factors is nought just at its roots.
-/
import Derived.Test.YtabdjiibbbgodaaW9
namespace Go.Proofs.Ytabdjiibbbgodaa
open Go.RowKit GfMath
set_option linter.unusedVariables false
/-- A polynomial times a linear factor. -/
def pm (p : List Nat) (r : Nat) : List Nat := List.zipWith (fun a b => a ^^^ b) (p ++ [0]) (0 :: p.map (gmul · r))
def poly (rs : List Nat) : List Nat := rs.foldl pm [1]
theorem pm_len (p : List Nat) (r : Nat) : (pm p r).length = p.length + 1 := by simp [pm]
theorem pm_byt {p : List Nat} {r : Nat} (hp : Byt p) : Byt (pm p r) := by
  intro z hz
  unfold pm at hz
  obtain ⟨i, hi, rfl⟩ := List.getElem_of_mem hz
  rw [List.getElem_zipWith]
  simp at hi
  refine xor_lt (Byt.get (xs := p ++ [0]) (hp.append (by intro x hx; simp at hx; omega)) (by simp; omega)) ?_
  refine Byt.get (xs := 0 :: p.map (gmul · r)) ?_ (by simp; omega)
  intro x hx
  rcases List.mem_cons.1 hx with rfl | hx
  · omega
  · obtain ⟨y, hy, rfl⟩ := List.mem_map.1 hx
    exact gmul_lt (hp y hy)
theorem poly_snoc (rs : List Nat) (r : Nat) : poly (rs ++ [r]) = pm (poly rs) r := by simp [poly]
theorem foldl_pm_len (rs : List Nat) : ∀ p, (rs.foldl pm p).length = p.length + rs.length := by
  induction rs with
  | nil => intro p; rfl
  | cons r rs ih => intro p; rw [List.foldl_cons, ih, pm_len]; simp; omega
theorem poly_len (rs : List Nat) : (poly rs).length = rs.length + 1 := by unfold poly; rw [foldl_pm_len]; simp; omega
theorem foldl_pm_byt (rs : List Nat) : ∀ p, Byt p → Byt (rs.foldl pm p) := by
  induction rs with
  | nil => intro p hp; exact hp
  | cons r rs ih => intro p hp; exact ih _ (pm_byt hp)
theorem poly_byt (rs : List Nat) : Byt (poly rs) := foldl_pm_byt rs _ (by intro x hx; simp at hx; omega)
theorem xor_gmul {a b c : Nat} (ha : a < 256) (hb : b < 256) (hc : c < 256) : gmul (a ^^^ b) c = gmul a c ^^^ gmul b c := by
  rw [gmul_comm (xor_lt ha hb) hc, gmul_xor, gmul_comm hc ha, gmul_comm hc hb]
theorem horner_step {x r P' c' : Nat} (hx : x < 256) (hr : r < 256) (h1 : P' < 256) (h2 : c' < 256) :
    gmul ((gmul P' x ^^^ c') ^^^ gmul P' r) x ^^^ gmul c' r = gmul (gmul P' x ^^^ c') x ^^^ gmul (gmul P' x ^^^ c') r := by
  have l1 : gmul P' x < 256 := gmul_lt h1
  have l2 : gmul P' r < 256 := gmul_lt h1
  rw [xor_gmul (xor_lt l1 h2) l2 hx, xor_gmul l1 h2 hr, ← gmul_assoc h1 hr hx, ← gmul_assoc h1 hx hr, gmul_comm hr hx, Nat.xor_assoc]
theorem horner (x r : Nat) (hx : x < 256) (hr : r < 256) : ∀ (p : List Nat) (P' c' : Nat), Byt p → P' < 256 → c' < 256 →
    (List.zipWith (fun a b => a ^^^ b) (p ++ [0]) (gmul c' r :: p.map (gmul · r))).foldl (fun a c => gmul a x ^^^ c) ((gmul P' x ^^^ c') ^^^ gmul P' r) = gmul (p.foldl (fun a c => gmul a x ^^^ c) (gmul P' x ^^^ c')) (x ^^^ r) := by
  intro p
  induction p with
  | nil =>
    intro P' c' _ h1 h2
    simp only [List.nil_append, List.map_nil, List.zipWith_cons_cons, List.zipWith_nil_right, List.foldl_cons, List.foldl_nil, Nat.zero_xor]
    rw [horner_step hx hr h1 h2, gmul_xor]
  | cons c p ih =>
    intro P' c' hp h1 h2
    have hc : c < 256 := hp c (List.mem_cons_self ..)
    have hp' : Byt p := fun y hy => hp y (List.mem_cons_of_mem _ hy)
    have l1 : gmul P' x < 256 := gmul_lt h1
    simp only [List.cons_append, List.map_cons, List.zipWith_cons_cons, List.foldl_cons]
    have e : gmul ((gmul P' x ^^^ c') ^^^ gmul P' r) x ^^^ (c ^^^ gmul c' r) = (gmul (gmul P' x ^^^ c') x ^^^ c) ^^^ gmul (gmul P' x ^^^ c') r := by
      rw [Nat.xor_comm c, ← Nat.xor_assoc, horner_step hx hr h1 h2, Nat.xor_assoc, Nat.xor_assoc, Nat.xor_comm c]
    rw [e]
    exact ih (gmul P' x ^^^ c') c hp' (xor_lt l1 h2) hc
theorem evl_pm {p : List Nat} {x r : Nat} (hp : Byt p) (hx : x < 256) (hr : r < 256) : evl (pm p r) x = gmul (evl p x) (x ^^^ r) := by
  have := horner x r hx hr p 0 0 hp (by omega) (by omega)
  rw [zero_gmul hx, zero_gmul hr] at this
  exact this
theorem xor_eq_zero {a b : Nat} : a ^^^ b = 0 ↔ a = b := by
  constructor
  · intro h
    have : (a ^^^ b) ^^^ b = 0 ^^^ b := by rw [h]
    rwa [Nat.xor_assoc, Nat.xor_self, Nat.xor_zero, Nat.zero_xor] at this
  · rintro rfl; exact Nat.xor_self _
theorem foldl_roots (x : Nat) (hx : x < 256) (rs : List Nat) : ∀ p, Byt p → Byt rs → (evl (rs.foldl pm p) x = 0 ↔ evl p x = 0 ∨ x ∈ rs) := by
  induction rs with
  | nil => intro p _ _; simp
  | cons r rs ih =>
    intro p hp hrs
    have hr : r < 256 := hrs r (List.mem_cons_self ..)
    rw [List.foldl_cons, ih _ (pm_byt hp) (fun y hy => hrs y (List.mem_cons_of_mem _ hy)), evl_pm hp hx hr, gmul_eq_zero (evl_lt hp x) (xor_lt hx hr), xor_eq_zero, List.mem_cons, or_assoc]
theorem evl_one (x : Nat) (hx : x < 256) : evl [1] x = 1 := by simp [evl, zero_gmul hx]
theorem poly_root {rs : List Nat} {x : Nat} (hr : Byt rs) (hx : x < 256) : evl (poly rs) x = 0 ↔ x ∈ rs := by
  unfold poly
  rw [foldl_roots x hx rs _ (by intro y hy; simp at hy; omega) hr, evl_one x hx]
  simp
/-- Whether x is among them. -/
def amg (rs : List Nat) (x : Nat) : Bool := rs.any fun r => r == x
theorem amg_root {rs : List Nat} {x : Nat} (hr : Byt rs) (hx : x < 256) : ((evl (poly rs) x : Nat) : Int) == 0 ↔ amg rs x = true := by
  have h := poly_root hr hx
  rw [beq_iff_eq]
  unfold amg
  rw [List.any_eq_true]
  constructor
  · intro e
    exact ⟨x, h.1 (by omega), by simp⟩
  · rintro ⟨r, h1, h2⟩
    have : r = x := by simpa using h2
    subst this
    have := h.2 h1
    omega
/-- Coefficient k of the product. -/
theorem pm_at (p : List Nat) (r k : Nat) (hk : k ≤ p.length) : (pm p r)[k]? = some (p.getD k 0 ^^^ (if k = 0 then 0 else gmul (p.getD (k - 1) 0) r)) := by
  unfold pm
  rw [List.getElem?_zipWith]
  have h1 : (p ++ [0])[k]? = some (p.getD k 0) := by
    rcases Nat.lt_or_ge k p.length with h | h
    · rw [List.getElem?_append_left h, List.getElem?_eq_getElem h]; simp [List.getD, List.getElem?_eq_getElem h]
    · obtain rfl : k = p.length := by omega
      simp
  have h2 : (0 :: p.map (gmul · r))[k]? = some (if k = 0 then 0 else gmul (p.getD (k - 1) 0) r) := by
    cases k with
    | zero => rfl
    | succ k =>
      rw [List.getElem?_cons_succ, List.getElem?_map, List.getElem?_eq_getElem (by omega), if_neg (by omega)]
      simp [List.getD, List.getElem?_eq_getElem (show k < p.length by omega)]
  rw [h1, h2]
theorem pm_take (p : List Nat) (r k : Nat) (hk : k ≤ p.length) : (pm p r).take (k + 1) = (pm p r).take k ++ [p.getD k 0 ^^^ (if k = 0 then 0 else gmul (p.getD (k - 1) 0) r)] := by
  have hl : k < (pm p r).length := by rw [pm_len]; omega
  have h := pm_at p r k hk
  rw [List.getElem?_eq_getElem hl] at h
  rw [List.take_succ_eq_append_getElem hl, Option.some.inj h]
end Go.Proofs.Ytabdjiibbbgodaa
