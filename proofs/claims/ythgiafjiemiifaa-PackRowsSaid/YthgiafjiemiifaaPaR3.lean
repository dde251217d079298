/-
  THE PROGRAM'S READER: texts.
-/
import Derived.Test.YthgiafjiemiifaaPaR2
namespace Go.Proofs.Ythgiafjiemiifaa
open Go.RowKit OctMath
set_option linter.unusedVariables false
def vText (xs : List Nat) (_ : World) (v : Value) : Prop := v = .string (strOf xs) ∧ Byt xs ∧ xs.length ≤ 1048576
theorem PG.below {g : Nat} {A : Option Addr} {n cap p : Nat} {bs : List Nat} {w w' : World} (h : PG g A n cap bs p w) (k : Below w.heap.size w w') : PG g A n cap bs p w' :=
  h.turn (Keep.below k) ((Keep.below (H := fun _ => True) k).blk h.blk trivial) h.pl
theorem rdB_rng (bs : List Nat) (p : Nat) (M : Nat) (hb : Byt bs) (he : (rdB bs p M).2.2 = 0) : 0 ≤ (rdB bs p M).2.1 ∧ (rdB bs p M).2.1 ≤ (bs.length : Int) ∧ Byt (rdB bs p M).1 ∧ (rdB bs p M).1.length ≤ M := by
  obtain ⟨k, e1, e2, e3, e4⟩ := rdB_one bs p M hb he
  have h4 : (rdB bs p M).1.length ≤ M := by
    have hd : rdB bs p M = (if (rdN bs p).2.2 ≠ 0 then ([], 0, (rdN bs p).2.2)
      else if (M : Int) < 0 ∨ (M : Int) < (rdN bs p).1 ∨ (bs.length : Int) - (rdN bs p).2.1 < (rdN bs p).1 then ([], 0, 40)
      else ((bs.drop (rdN bs p).2.1.toNat).take (rdN bs p).1, (rdN bs p).2.1 + (rdN bs p).1, 0)) := rfl
    rw [hd]
    split
    · simp
    · split
      · simp
      · rename_i h
        rw [List.length_take]
        omega
  refine ⟨by omega, by omega, ?_, h4⟩
  intro x hx
  have : x ∈ (bs.drop k).take (putN (rdB bs p M).1.length ++ (rdB bs p M).1).length := by rw [e4]; exact List.mem_append_right _ hx
  exact hb x (List.mem_of_mem_drop (List.mem_of_mem_take this))
/-- Bytes do not lie in the page's own block. -/
theorem PG.apart {g : Nat} {A : Option Addr} {n cap p : Nat} {bs : List Nat} {w : World} (h : PG g A n cap bs p w) {B m : Nat} {A1 : Option Addr} {xs : List Nat} (hr : Reads w B 1 A1 m (xs.map bv)) : 0 < m → ∀ ad, A1 = some ad → Not g ad.block := by
  intro hm ad ha hg
  obtain ⟨ad', u, e1, hB, h2, h3⟩ := hr.at_ hm
  rw [ha] at e1
  injection e1 with e1
  rw [← e1] at h3
  rw [show ad.add 0 = ad from rfl] at h3
  rw [List.getElem?_map] at h2
  obtain ⟨x, -, rfl⟩ := Option.map_eq_some_iff.1 h2
  have hb : w.heap[ad.block]? = some (.cells #[.slice A n cap, .int .i64 (p : Int)] 117) := by rw [hg]; exact h.blk
  unfold World.cell? at h3
  rw [hb] at h3
  simp only at h3
  split at h3
  · cases h3
  · match ho : ad.off, h3 with
    | 0, h3 => simp [bv] at h3
    | 1, h3 => simp [bv] at h3
    | k + 2, h3 => simp at h3
set_option maxRecDepth 100000 in
set_option maxHeartbeats 1000000 in
theorem pg_text (g : Nat) (A : Option Addr) (n cap : Nat) (bs : List Nat) (p : Nat) (w : World) (hP : Hid (PG g A n cap bs p w)) :
    Calls Try.prog 79 #[.pointer (some ⟨g, 0, none⟩)] w (RetR (rText bs p) vText g A n cap bs w) := by
  have c0 := hP.out.blk.cell 0
  have c1 := hP.out.blk.cell 1
  have HN := Lib.hid (bytes_any A cap n p 1048576 bs w.drew hP.out.byt hP.out.len hP.out.drew.rd hP.out.le hP.out.mx hP.out.reach (by omega))
  have HR := Lib.hid (show rText bs p = if (rdB bs p 1048576).2.2 = 0 then some ((rdB bs p 1048576).1, (rdB bs p 1048576).2.1.toNat) else none from rfl)
  have HG := Lib.hid (rdB_rng bs p 1048576 hP.out.byt)
  rw [hP.out.len] at HG
  generalize rdB bs p 1048576 = r at *
  obtain ⟨v, q, er⟩ := r
  simp only at HR HG
  by_cases he : er = 0
  · subst he
    obtain ⟨g1, g2, g3, g4⟩ := HG.out rfl
    obtain ⟨q, rfl⟩ := Int.eq_ofNat_of_zero_le g1
    have HQ := Lib.hid (show q ≤ n by omega)
    have HV := Lib.hid (And.intro g3 g4)
    clear g1 g2 g3 g4
    rw [if_pos rfl] at HR
    go_enter Try.func79, Try.ntmps79
    go_wp2
    go_region_held3 (fun w' => w'.cell? ⟨g, 0, none⟩ = some (.slice A n cap) ∧ w'.cell? ⟨g, 1, none⟩ = some (.int .i64 (p : Int))) (first | exact ⟨c0, c1⟩ | exact ⟨d0, d1⟩ | fail) (first
      | (go_at_call 94; refine HN.out.mono ?_; rintro e w1 ⟨A1, n1, cap1, rfl, r1, -, -, hb⟩; have HP1 := Lib.hid (hP.out.drew.below hb); have d0 := HP1.out.blk.cell 0; have d1 := HP1.out.blk.cell 1; have HK1 := Lib.hid (keep_drew.trans (Keep.below (H := Not g) hb) : Keep (Not g) w w1); have R1 := Lib.hid r1; clear r1 hb))
    have HR1 := Lib.hid (HP1.out.apart R1.out)
    go_wp2_with (go_at_call 88; refine (took_ok g q A n cap p _ (Lib.hid HP1.out.blk)).mono ?_; rintro e w2 ⟨rfl, hw⟩; obtain ⟨hp2, hk2⟩ := HP1.out.put (q := q) HQ.out; rw [← hw] at hp2 hk2; have HP2 := Lib.hid hp2; have HK2 := Lib.hid hk2; have kc := run_conv_bytes (P := Try.prog) (src := 22) (dst := 9) (cap := cap1) Try.underlying22 Try.underlying5 Try.underlying9 (hk2.reads R1.out HR1.out); clear hp2 hk2 hw)
    go_ret
    rw [HR.out]
    exact RetR.some_ ⟨rfl, HV.out⟩ HP2.out (HK1.out.trans HK2.out)
  · rw [if_neg he] at HR
    clear HG
    have he' := Lib.hid (show (er : Int) ≠ 0 by omega)
    go_enter Try.func79, Try.ntmps79
    go_wp2
    go_region_held3 (fun w' => w'.cell? ⟨g, 0, none⟩ = some (.slice A n cap) ∧ w'.cell? ⟨g, 1, none⟩ = some (.int .i64 (p : Int))) (first | exact ⟨c0, c1⟩ | exact ⟨d0, d1⟩ | fail) (first
      | (go_at_call 94; refine HN.out.mono ?_; rintro e w1 ⟨A1, n1, cap1, rfl, r1, -, -, hb⟩; have HP1 := Lib.hid (hP.out.drew.below hb); have d0 := HP1.out.blk.cell 0; have d1 := HP1.out.blk.cell 1; have HK1 := Lib.hid (keep_drew.trans (Keep.below (H := Not g) hb) : Keep (Not g) w w1); have R1 := Lib.hid r1; clear r1 hb))
    go_wp2_with (go_at_call 88; refine (took_bad g q er _ he'.out).mono ?_; rintro e w2 ⟨rfl, hw⟩; rw [hw]; clear hw)
    refine ⟨rfl, ?_⟩
    rw [HR.out]
    exact RetR.none_ HK1.out
end Go.Proofs.Ythgiafjiemiifaa
