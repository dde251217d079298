/-
  THE REFERENCE'S P: the reading one, the writing one.
-/
import Derived.Test.YthgiafjiemiifaaPaQ3
import Derived.Test.YthgiafjiemiifaaPaQ4
import Derived.Test.YthgiafjiemiifaaPenB
namespace Go.Proofs.Ythgiafjiemiifaa
open Go.RowKit OctMath
set_option linter.unusedVariables false
/-- P while it reads the bytes bs. -/
def rMd (g : Nat) (A : Option Addr) (n cap : Nat) (bs : List Nat) : Md (Int × Bool) where
  g := g
  write := false
  bad s := s.2
  fit _ _ := True
  St s w := PF g A n cap bs s w
  dep _ k := k = g ∨ (0 < n ∧ ∃ ad, A = some ad ∧ ad.block = k)
  wr _ k := k = g
  u64 s _ := u64R bs s
  u32 s _ := u32R bs s
  int s _ := intR bs s
  flag s _ := flagR bs s
  text s _ := bytesR bs s
  len s _ := lenR bs s
theorem rMd_ret {g : Nat} {A : Option Addr} {n cap : Nat} {bs : List Nat} {s' : Int × Bool} {v : Value} {w w' : World} {e : Ending} (h : RetF s' v g A n cap bs w e w') : RetP (rMd g A n cap bs) s' v w e w' := by
  obtain ⟨h1, h2, h3⟩ := h
  exact ⟨h1, h2, h3.os, h3.tape, h3.output, h3.size, fun k hk hn => h3.block k hn hk, fun _ _ e => e, fun _ _ e => e⟩
theorem intR_rng {bs : List Nat} (hb : Byt bs) (s : Int × Bool) : I64 (intR bs s).2 := by
  unfold intR
  split
  · exact unz_rng (rdN_lt bs s.1 hb).1
  · show I64 0
    exact ⟨by decide, by decide⟩
theorem rdB_rng_int (bs : List Nat) (p : Int) (M : Nat) (hb : Byt bs) : Byt (rdB bs p M).1 ∧ (rdB bs p M).1.length ≤ M := by
  have hd : rdB bs p M = (if (rdN bs p).2.2 ≠ 0 then ([], 0, (rdN bs p).2.2)
    else if (M : Int) < 0 ∨ (M : Int) < (rdN bs p).1 ∨ (bs.length : Int) - (rdN bs p).2.1 < (rdN bs p).1 then ([], 0, 40)
    else ((bs.drop (rdN bs p).2.1.toNat).take (rdN bs p).1, (rdN bs p).2.1 + (rdN bs p).1, 0)) := rfl
  rw [hd]
  split
  · exact ⟨fun x hx => by simp at hx, by simp⟩
  · split
    · exact ⟨fun x hx => by simp at hx, by simp⟩
    · rename_i h
      refine ⟨fun x hx => hb x (List.mem_of_mem_drop (List.mem_of_mem_take hx)), ?_⟩
      rw [List.length_take]
      omega
theorem bytesR_rng {bs : List Nat} (hb : Byt bs) (s : Int × Bool) : (∀ y ∈ (bytesR bs s).2, y < 256) ∧ (bytesR bs s).2.length ≤ 1048576 := by
  unfold bytesR
  split
  · exact rdB_rng_int bs s.1 1048576 hb
  · exact ⟨fun x hx => by simp at hx, by simp⟩
theorem lenR_rng {bs : List Nat} (s : Int × Bool) : (lenR bs s).2 ≤ 1048576 := by
  unfold lenR
  split
  · exact Nat.zero_le _
  · rename_i h
    cases hb : (u64R bs s).1.2 with
    | true => rw [u64R_bad hb]; exact Nat.zero_le _
    | false => rw [hb] at h; simp only [true_and, not_or] at h; omega
theorem u32R_rng {bs : List Nat} (s : Int × Bool) : (u32R bs s).2 < 4294967296 := by
  unfold u32R
  split
  · assumption
  · dsimp only; omega
theorem rMd_ok (g : Nat) (A : Option Addr) (n cap : Nat) (bs : List Nat) (hO : Ov n cap bs) : MdOk (rMd g A n cap bs) where
  gwr := fun _ => rfl
  glt := fun h => h.blk.lt
  cwrite := fun h => h.blk.cell 2
  cbad := fun h => h.blk.cell 3
  grown := fun {s w w' row} h hg hr => by
    have hgr : row ≠ some g := fun e => (hr g e).wr rfl
    refine ⟨⟨h.blk.grown hg (fun e => hgr e.symm), ⟨h.rd.1, fun hn => ?_⟩, h.ne⟩, fun _ => Iff.rfl, fun _ => Iff.rfl⟩
    obtain ⟨ad, e, hb, hc⟩ := h.rd.2 hn
    refine ⟨ad, e, Nat.lt_of_lt_of_le hb hg.size, fun j u hu => ?_⟩
    rw [← hc j u hu]
    refine World.cell?_of_block ?_
    rw [block_of_add]
    exact hg.block _ hb (fun e' => (hr ad.block e'.symm).dep (.inr ⟨hn, ad, e, rfl⟩))
  fresh := fun h k hk => by
    rcases hk with (rfl | ⟨hn, ad, e, rfl⟩) | rfl
    · exact h.blk.lt
    · obtain ⟨ad', e', hb, -⟩ := h.rd.2 hn
      rw [e] at e'
      obtain rfl := Option.some.inj e'
      exact hb
    · exact h.blk.lt
  mono := fun _ _ => trivial
  f_u64 := fun _ _ => trivial
  f_u32 := fun _ _ => trivial
  f_int := fun _ _ => trivial
  f_flag := fun _ => trivial
  f_text := fun _ _ => trivial
  f_len := fun _ _ => trivial
  r_u64 := fun _ => u64R_lt bs hO.byt _
  r_u32 := fun _ => u32R_rng _
  r_int := fun _ => intR_rng hO.byt _
  r_text := fun _ => bytesR_rng hO.byt _
  r_len := fun _ => lenR_rng _
  wlen := fun h => by cases h
  c_u64 := fun s x w h _ _ => (pr_u64 g A n cap bs s x w h hO).mono fun _ _ h => rMd_ret h
  c_u32 := fun s x w h hx _ => (pr_u32 g A n cap bs s x w h hO hx).mono fun _ _ h => rMd_ret h
  c_int := fun s x w h _ _ => (pr_int g A n cap bs s x w h hO).mono fun _ _ h => rMd_ret h
  c_flag := fun s x w h _ => (pr_flag g A n cap bs s x w h hO).mono fun _ _ h => rMd_ret h
  c_text := fun s x w h _ _ => (pr_text g A n cap bs s _ w h hO).mono fun _ _ h => rMd_ret h
  c_len := fun s x w h hx _ => (pr_len g A n cap bs s x w h hO hx).mono fun _ _ h => rMd_ret h
/-- P while it writes. -/
def wMd (g : Nat) : Md (List Nat) where
  g := g
  write := true
  bad _ := false
  fit s a := s.length + a ≤ 70000000000000
  St s w := Pen (fun _ => False) g s w
  dep w k := k = g ∨ ∃ v, w.cell? ⟨g, 0, none⟩ = some v ∧ v.ownBlock = some k
  wr w k := k = g ∨ ∃ v, w.cell? ⟨g, 0, none⟩ = some v ∧ v.ownBlock = some k
  u64 s x := (s ++ putN x, x)
  u32 s x := (s ++ putN x, x)
  int s x := (s ++ putN (zz x), x)
  flag s x := (s ++ [x.toNat], x)
  text s x := (s ++ (putN x.length ++ x), x)
  len s x := (s ++ putN x, x)
/-- The blocks that P leaves alone. -/
def offW (g : Nat) (w : World) : Nat → Prop := fun k => k < w.heap.size ∧ ¬ (wMd g).wr w k
theorem wMd_pen {g : Nat} {xs : List Nat} {w : World} (h : Pen (fun _ => False) g xs w) : Hid (Pen (offW g w) g xs w) ∧ Hid (Safe (offW g w) g w) := by
  obtain ⟨v, hB, hO, hg, -⟩ := h.out
  exact ⟨Lib.hid ⟨v, hB, hO, hg, fun k hk e => hk.2 (.inr ⟨v, hB.cell 0, e⟩)⟩, Lib.hid fun k hk => ⟨hk.1, fun e => hk.2 (.inl e)⟩⟩
theorem wMd_ret {g : Nat} {xs ys : List Nat} {v : Value} {w w' : World} {e : Ending} (h0 : Pen (fun _ => False) g xs w) (h : RetPen (offW g w) g ys v w e w') : RetP (wMd g) ys v w e w' := by
  obtain ⟨h1, h2, h3⟩ := h
  obtain ⟨pv, hB, hO, hg, hh⟩ := h2.out
  have hw : ∀ k, k < w.heap.size → (wMd g).wr w' k → (wMd g).wr w k := fun k hk e => by
    by_cases hn : (wMd g).wr w k
    · exact hn
    · rcases e with e | ⟨u, hu, e⟩
      · exact .inl e
      · have hc : w'.cell? ⟨g, 0, none⟩ = some pv := hB.cell 0
        rw [hu] at hc
        injection hc with hc
        subst hc
        exact absurd e (hh k ⟨hk, hn⟩)
  exact ⟨h1, ⟨pv, hB, hO, hg, fun _ h => h.elim⟩, h3.os, h3.tape, h3.output, h3.size, fun k hk hn => h3.block k ⟨hk, hn⟩ hk, hw, hw⟩
theorem octs_strOf (x : List Nat) (h : ∀ y ∈ x, y < 256) : octs (strOf x) = x := by
  unfold octs strOf
  simp only [List.map_map]
  conv => rhs; rw [← List.map_id x]
  refine List.map_congr_left fun y hy => ?_
  have := h y hy
  simp [Nat.mod_eq_of_lt this]
theorem strOf_size (x : List Nat) : (strOf x).size = x.length := by
  unfold strOf
  simp [ByteArray.size]
theorem wMd_ok (g : Nat) : MdOk (wMd g) where
  gwr := fun _ => .inl rfl
  glt := fun h => h.lt
  cwrite := fun h => by obtain ⟨v, hB, _⟩ := h.out; exact hB.cell 2
  cbad := fun h => by obtain ⟨v, hB, _⟩ := h.out; exact hB.cell 3
  grown := fun {s w w' row} h hg hr => by
    obtain ⟨v, hB, hO, hne, -⟩ := h.out
    have h0 : w.cell? ⟨g, 0, none⟩ = some v := hB.cell 0
    have hgr : some g ≠ row := fun e => (hr g e.symm).wr (.inl rfl)
    have hB' := hB.grown hg hgr
    have h0' : w'.cell? ⟨g, 0, none⟩ = some v := hB'.cell 0
    refine ⟨⟨v, hB', hO.kept hg ?_, hne, fun _ h => h.elim⟩, ?_, ?_⟩
    · cases row with
      | none => cases hv : v.ownBlock <;> simp
      | some k => exact .inr (fun e => (hr k rfl).wr (.inr ⟨v, h0, e⟩))
    · intro k; show (_ ∨ _) ↔ (_ ∨ _); rw [h0, h0']
    · intro k; show (_ ∨ _) ↔ (_ ∨ _); rw [h0, h0']
  fresh := fun h k hk => by
    obtain ⟨v, hB, hO, hne, -⟩ := h.out
    have h0 : _ = some v := hB.cell 0
    rcases hk with (rfl | ⟨u, hu, e⟩) | (rfl | ⟨u, hu, e⟩)
    · exact hB.lt
    · rw [h0] at hu; injection hu with hu; exact (hO.lt k (hu ▸ e)).2
    · exact hB.lt
    · rw [h0] at hu; injection hu with hu; exact (hO.lt k (hu ▸ e)).2
  mono := fun {s a b} h hb => Nat.le_trans (Nat.add_le_add_left hb _) h
  f_u64 := fun {s a x} h hx => by have := putN_len10 hx; show (s ++ putN x).length + a ≤ _; rw [List.length_append]; unfold wMd at h; simp only at h; omega
  f_u32 := fun {s a x} h hx => by have := putN_len10 (n := x) (by omega); show (s ++ putN x).length + a ≤ _; rw [List.length_append]; unfold wMd at h; simp only at h; omega
  f_int := fun {s a x} h hx => by have := putN_len10 (zz_lt hx.1 hx.2); show (s ++ putN (zz x)).length + a ≤ _; rw [List.length_append]; unfold wMd at h; simp only at h; omega
  f_flag := fun {s a x} h => by show (s ++ [x.toNat]).length + a ≤ _; rw [List.length_append]; unfold wMd at h; simp only at h; simp only [List.length_singleton]; omega
  f_text := fun {s a x} h hx => by have := putN_len10 (n := x.length) (by omega); show (s ++ (putN x.length ++ x)).length + a ≤ _; rw [List.length_append, List.length_append]; unfold wMd at h; simp only at h; omega
  f_len := fun {s a x} h hx => by have := putN_len10 (n := x) (by omega); show (s ++ putN x).length + a ≤ _; rw [List.length_append]; unfold wMd at h; simp only at h; omega
  r_u64 := fun h => h
  r_u32 := fun h => h
  r_int := fun h => h
  r_text := fun h => h
  r_len := fun h => h
  wlen := fun _ _ _ => rfl
  c_u64 := fun s x w h hx hf => by obtain ⟨a, b⟩ := wMd_pen h.out; unfold wMd at hf; simp only at hf; exact (pen_u64 _ g s x w a b hx (by omega)).mono fun _ _ r => wMd_ret h.out r
  c_u32 := fun s x w h hx hf => by obtain ⟨a, b⟩ := wMd_pen h.out; unfold wMd at hf; simp only at hf; exact (pen_u32 _ g s x w a b hx (by omega)).mono fun _ _ r => wMd_ret h.out r
  c_int := fun s x w h hx hf => by obtain ⟨a, b⟩ := wMd_pen h.out; unfold wMd at hf; simp only at hf; exact (pen_int _ g s x w a b hx.1 hx.2 (by omega)).mono fun _ _ r => wMd_ret h.out r
  c_flag := fun s x w h hf => by obtain ⟨a, b⟩ := wMd_pen h.out; unfold wMd at hf; simp only at hf; exact (pen_flag _ g s x w a b (by omega)).mono fun _ _ r => wMd_ret h.out r
  c_text := fun s x w h hx hf => by
    obtain ⟨a, b⟩ := wMd_pen h.out
    unfold wMd at hf
    simp only at hf
    have hs := strOf_size x
    have := pen_text _ g s (strOf x) w a b (by omega) (by omega)
    rw [octs_strOf x hx.1, hs] at this
    exact this.mono fun _ _ r => wMd_ret h.out r
  c_len := fun s x w h hx hf => by obtain ⟨a, b⟩ := wMd_pen h.out; unfold wMd at hf; simp only at hf; exact (pen_len _ g s x w a b hx (by omega)).mono fun _ _ r => wMd_ret h.out r
end Go.Proofs.Ythgiafjiemiifaa
