/-
  MORE WORDS FOR MEMORY: a slice of bytes as a string; a copy; what a call hands back as a fresh slice that reads as a list.
-/
import Derived.Test.YtabdjiibbbgodaaLib
import Derived.Laws.BytesString
import Derived.Laws.Cells
namespace Go.Proofs.Ytabdjiibbbgodaa
open Go.RowKit

/-- The string of bytes. -/
def strOf (xs : List Nat) : ByteArray := ⟨(xs.map UInt8.ofNat).toArray⟩
theorem foldl_push (ns : List Int) : ∀ s : ByteArray, ns.foldl (fun r n => r.push (UInt8.ofNat n.toNat)) s = ⟨s.data ++ (ns.map fun n => UInt8.ofNat n.toNat).toArray⟩ := by
  induction ns with
  | nil => intro s; simp
  | cons n ns ih => intro s; rw [List.foldl_cons, ih]; simp [ByteArray.push]
theorem run_conv_bytes {P : Program} {w : World} {src dst e : TypeId} {A : Option Addr} {n cap B : Nat} {xs : List Nat} (hs : P.underlying src = some (.slice e)) (he : P.underlying e = some (.int .u8)) (hd : P.underlying dst = some .string)
    (hr : Reads w B 1 A n (xs.map bv)) : (convert src dst (.slice A n cap)).run P w = .ok (.string (strOf xs)) w := by
  rw [run_convert_bytes_string w src dst e A n cap hs he hd]
  have hn : xs.length = n := by simpa using hr.1
  rcases A with _ | ad
  · have h0 : n = 0 := by
      rcases Nat.eq_zero_or_pos n with h | h
      · exact h
      · obtain ⟨_, h1, _⟩ := hr.2 h; cases h1
    subst h0
    obtain rfl := List.eq_nil_of_length_eq_zero hn
    rfl
  · have hc : ∀ j v, (xs.map bv)[j]? = some v → w.cell? (ad.add j) = some v := by
      intro j v hv
      rcases Nat.eq_zero_or_pos n with h | h
      · subst h
        obtain rfl := List.eq_nil_of_length_eq_zero hn
        simp at hv
      · obtain ⟨ad', h1, _, h2⟩ := hr.2 h
        injection h1 with h1
        subst h1
        exact h2 j v hv
    have h := run_loadCells_list (P := P) w ad (xs.map bv) hc
    rw [List.length_map, hn] at h
    have e1 : xs.map bv = (xs.map fun x : Nat => (x : Int)).map (Value.int .u8) := by rw [List.map_map]; rfl
    rw [e1] at h
    rw [run_bytesToString w ad n cap (xs.map fun x : Nat => (x : Int)) h, foldl_push]
    simp [strOf, ByteArray.empty, ByteArray.emptyWithCapacity, Function.comp_def]
    rfl
theorem map_ofNat_inj {xs ys : List Nat} (hx : Byt xs) (hy : Byt ys) (h : xs.map UInt8.ofNat = ys.map UInt8.ofNat) : xs = ys := by
  have hb : ∀ l : List Nat, Byt l → (l.map UInt8.ofNat).map UInt8.toNat = l := by
    intro l hl
    rw [List.map_map]
    conv => rhs; rw [← List.map_id l]
    refine List.map_congr_left fun x hx => ?_
    have := hl x hx
    simp [UInt8.toNat_ofNat']
    omega
  have := congrArg (List.map UInt8.toNat) h
  rwa [hb xs hx, hb ys hy] at this
theorem strOf_beq {xs ys : List Nat} (hx : Byt xs) (hy : Byt ys) : ((strOf xs).toList == (strOf ys).toList) = decide (xs = ys) := by
  rw [ByteArray.toList_eq, ByteArray.toList_eq]
  simp only [strOf]
  by_cases h : xs = ys
  · subst h; simp
  · rw [decide_eq_false h]
    exact beq_eq_false_iff_ne.2 fun e => h (map_ofNat_inj hx hy e)

/-- A fresh slice of one-cell elements, owned by nobody else, that reads as a list; what was there stays. -/
def RetS (t : TypeId) (xs : List Value) (w : World) (e : Ending) (w' : World) : Prop :=
  ∃ v, e = .returned v ∧ w'.ownsRow w.heap.size t 1 v xs.length xs ∧ Below w.heap.size w w'
theorem own_slice {w : World} {base : Nat} {t : TypeId} {size n : Nat} {v : Value} {xs : List Value} (h : w.ownsRow base t size v n xs) : ∃ A cap, v = .slice A n cap ∧ n ≤ cap ∧ cap ≤ maxLen := by
  rcases h.2 with ⟨rfl, rfl⟩ | ⟨g, cap, cur, rfl, _, _, hc, hm, _⟩
  · exact ⟨none, 0, rfl, Nat.le_refl _, by unfold maxLen; omega⟩
  · exact ⟨_, cap, rfl, hc, hm⟩
/-- Opened for a caller that reads. -/
theorem RetS.open {t : TypeId} {xs : List Value} {w w' : World} {e : Ending} (h : RetS t xs w e w') :
    ∃ A cap, e = .returned (.slice A xs.length cap) ∧ Reads w' w'.heap.size 1 A xs.length xs ∧ xs.length ≤ cap ∧ cap ≤ maxLen ∧ Below w.heap.size w w' ∧ w'.ownsRow w.heap.size t 1 (.slice A xs.length cap) xs.length xs := by
  obtain ⟨v, rfl, ho, hb⟩ := h
  obtain ⟨A, cap, rfl, h1, h2⟩ := own_slice ho
  exact ⟨A, cap, rfl, Reads.of_own ho, h1, h2, hb, ho⟩
/-- The same slice, read later. -/
theorem Reads.later {w w' : World} {size n : Nat} {A : Option Addr} {xs : List Value} (h : Reads w w.heap.size size A n xs) (hb : Below w.heap.size w w') : Reads w' w'.heap.size size A n xs := (h.below hb).more hb.size
theorem Reads.here {w : World} {B size n : Nat} {A : Option Addr} {xs : List Value} (h : Reads w B size A n xs) (h0 : 0 < size) : Reads w w.heap.size size A n xs := by
  refine ⟨h.1, fun hn => ?_⟩
  obtain ⟨ad, e, hb, hc⟩ := h.2 hn
  refine ⟨ad, e, ?_, hc⟩
  have hl : 0 < xs.length := by rw [h.1]; exact Nat.mul_pos hn h0
  have := World.block_lt_of_cell? _ _ (hc 0 _ (List.getElem?_eq_getElem hl))
  rwa [block_of_add] at this
/-- The form's own reach, of a slice of integers that came in. -/
theorem ints_reach {H : Type} {enc : TypeId × Value → H} {P : Program} {t e : TypeId} {k : IntKind} {w : World} {base b : Nat} {sp : Nat → Bool} {held : Bool} {A : Option Addr} {len cap : Nat} {d : DataW H} {ps : List MemPlace}
    (ht : P.underlying t = some (.slice e)) (he : P.underlying e = some (.int k)) (hc : P.cellsOf e = 1) (h : DataW.Trod enc P w base sp held t (.slice A len cap) d ps)
    (hsz : ∀ el sr : List (DataW H), d = .slice el sr → (el.length + sr.length) * b ≤ reachBytes) : len * b ≤ 140737488351232 := by
  obtain ⟨fuel, hf⟩ := h
  rcases Go.ChangeShapes.open_ints ht he hc hf with ⟨hcs, _⟩ | ⟨x, l, c, zs, hcs, _, hl, hm, hz, hx, hcell, hwz⟩
  · simp [Value.cells] at hcs
    obtain ⟨rfl, rfl, rfl⟩ := hcs
    omega
  · simp [Value.cells] at hcs
    obtain ⟨rfl, rfl, rfl⟩ := hcs
    have hz' : len ≤ zs.length := by
      have h1 : zs.length = if sp x.block = true then cap else len := by simpa using hz
      rw [h1]; split <;> omega
    have hd : d = .slice (Go.ChangeShapes.lits k (zs.take len)) (Go.ChangeShapes.lits k (zs.drop len)) := congrArg Prod.fst hx
    have := hsz _ _ hd
    have e1 : (Go.ChangeShapes.lits (H := H) k (zs.take len)).length + (Go.ChangeShapes.lits (H := H) k (zs.drop len)).length = zs.length := by
      simp [Go.ChangeShapes.lits]; omega
    rw [e1] at this
    have h2 : len * b ≤ zs.length * b := Nat.mul_le_mul_right _ hz'
    unfold reachBytes at this
    omega
end Go.Proofs.Ytabdjiibbbgodaa
