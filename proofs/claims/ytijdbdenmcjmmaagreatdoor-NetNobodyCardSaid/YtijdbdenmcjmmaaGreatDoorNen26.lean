/-
  A NET THAT NO CALL MADE: what its calls answer. (printed by gen_nt1.py); THE REFERENCE'S P, WRITING: rows of entries. (joined out of NtA, WirQ1 by shake.py)
-/
import Derived.Test.YtijdbdenmcjmmaaGreatDoorNen25
import Derived.Test.YtijdbdenmcjmmaaGreatDoorNen24
import Derived.Test.YtijdbdenmcjmmaaGreatDoorNen22
import Derived.Test.YtijdbdenmcjmmaaGreatDoorNen20
import Derived.Test.YtijdbdenmcjmmaaGreatDoorNen12
section
namespace Go.Proofs.YtijdbdenmcjmmaaGreatDoor
open Go.RowKit OctMath
set_option linter.unusedVariables false
set_option linter.unusedSimpArgs false
def nZ : Array Value := #[.bool false, .slice none 0 0, .slice none 0 0, .int .i64 0, .int .i64 0, .int .i64 0]
def Nob (w : World) (v : Value) : Prop := v = .pointer none ∨ ∃ g, v = .pointer (some ⟨g, 0, none⟩) ∧ Blk w g 45 nZ
theorem Nob.later {w w' : World} {v : Value} (h : Nob w v) (hb : Below w.heap.size w w') : Nob w' v := by
  rcases h with rfl | ⟨g, rfl, k⟩
  · exact .inl rfl
  · exact .inr ⟨g, rfl, k.below hb k.lt⟩
set_option maxRecDepth 100000 in
set_option maxHeartbeats 4000000 in
theorem peek_nob (v : Value) (i : Int) (w : World) (h : Hid (Nob w v)) : Calls Tryz.prog 5 #[v, .int .i64 i] w fun e w' => e = .returned (.tuple #[.agg msgZ, .int .i64 1]) ∧ Below w.heap.size w w' := by
  rcases h.out with rfl | ⟨g, rfl, hB⟩
  · clear h
    go_enter Tryz.func5, Tryz.ntmps5
    obtain ⟨w1, ew⟩ : ∃ w1, w.alloc (.cells msgZ 38) = w1 := ⟨_, rfl⟩
    have hb1 : Below w.heap.size w (w.alloc (.cells msgZ 38)) := (Below.refl _ _).alloc (Nat.le_refl _) _
    have hz := Blk.new w 38 msgZ
    rw [ew] at hb1 hz
    have ew2 : w.alloc (.cells #[.int .i64 0, .int .i64 0, .int .i64 0, .int .u64 0, .int .u64 0, .int .u64 0, .int .u64 0, .int .u64 0, .bool false, .bool false, .slice none 0 0, .slice none 0 0, .slice none 0 0, .int .u64 0, .int .i64 0, .int .u64 0, .int .i64 0, .int .i64 0, .int .i64 0, .int .u32 0, .slice none 0 0, .int .u64 0, .int .u64 0, .int .i64 0, .string ⟨#[]⟩, .int .i64 0, .slice none 0 0] 38) = w1 := ew
    have HB1 := Lh hb1
    have HZ := Lh hz
    obtain ⟨b, eb⟩ : ∃ b, w.heap.size = b := ⟨_, rfl⟩
    have EB := Lh eb
    rw [eb] at HZ
    clear hb1 hz ew
    go_wp2_with (first | rw [ew2] | rw [eb] | (refine wpl_store_blk rfl 38 (.tmp 4) (.tmp 16) rfl b 38 msgZ msgZ rfl rfl HZ.out rfl sizeMsg rfl ?_; intro w3 hB3 hO3))
    clear ew2 eb
    refine bodyPost_ret (res_ct Tryz.results5 rfl rfl (load_blk hB3.out Tryz.underlying38 rfl sizeMsg)) rfl ⟨rfl, ?_⟩
    have hfin := HB1.out.trans (hO3.out.below (by rw [EB.out]; exact Nat.le_refl _))
    rw [EB.out] at hfin
    exact hfin
  · have HG := Lh hB.lt
    have c0 : w.cell? ⟨g, 0, none⟩ = some (.bool false) := hB.cell 0
    clear h hB
    go_enter Tryz.func5, Tryz.ntmps5
    obtain ⟨w1, ew⟩ : ∃ w1, w.alloc (.cells msgZ 38) = w1 := ⟨_, rfl⟩
    have hb1 : Below w.heap.size w (w.alloc (.cells msgZ 38)) := (Below.refl _ _).alloc (Nat.le_refl _) _
    have hz := Blk.new w 38 msgZ
    rw [ew] at hb1 hz
    have ew2 : w.alloc (.cells #[.int .i64 0, .int .i64 0, .int .i64 0, .int .u64 0, .int .u64 0, .int .u64 0, .int .u64 0, .int .u64 0, .bool false, .bool false, .slice none 0 0, .slice none 0 0, .slice none 0 0, .int .u64 0, .int .i64 0, .int .u64 0, .int .i64 0, .int .i64 0, .int .i64 0, .int .u32 0, .slice none 0 0, .int .u64 0, .int .u64 0, .int .i64 0, .string ⟨#[]⟩, .int .i64 0, .slice none 0 0] 38) = w1 := ew
    have HB1 := Lh hb1
    have HZ := Lh hz
    obtain ⟨b, eb⟩ : ∃ b, w.heap.size = b := ⟨_, rfl⟩
    have EB := Lh eb
    rw [eb] at HZ
    have c0 : w1.cell? ⟨g, 0, none⟩ = some (.bool false) := (hb1.cell (p := ⟨g, 0, none⟩) HG.out).trans c0
    clear hb1 hz ew
    go_wp2_with (first | rw [ew2] | rw [eb] | (refine wpl_store_blk rfl 38 (.tmp 4) (.tmp 16) rfl b 38 msgZ msgZ rfl rfl HZ.out rfl sizeMsg rfl ?_; intro w3 hB3 hO3))
    clear ew2 eb
    refine bodyPost_ret (res_ct Tryz.results5 rfl rfl (load_blk hB3.out Tryz.underlying38 rfl sizeMsg)) rfl ⟨rfl, ?_⟩
    have hfin := HB1.out.trans (hO3.out.below (by rw [EB.out]; exact Nat.le_refl _))
    rw [EB.out] at hfin
    exact hfin

set_option maxRecDepth 100000 in
theorem stats_nob (v : Value) (w : World) (h : Hid (Nob w v)) : Calls Tryz.prog 6 #[v] w fun e w' => e = .returned (.tuple #[.int .i64 0, .int .i64 0, .int .i64 0]) ∧ Below w.heap.size w w' := by
  rcases h.out with rfl | ⟨g, rfl, hB⟩
  · clear h
    go_enter Tryz.func6, Tryz.ntmps6
    go_wp2
    refine bodyPost_ret (results_tmp3 rfl _ _ _) rfl ⟨rfl, Below.refl _ _⟩
  · have c3 : w.cell? ⟨g, 3, none⟩ = some (.int .i64 0) := hB.cell 3
    have c4 : w.cell? ⟨g, 4, none⟩ = some (.int .i64 0) := hB.cell 4
    have c5 : w.cell? ⟨g, 5, none⟩ = some (.int .i64 0) := hB.cell 5
    clear h hB
    go_enter Tryz.func6, Tryz.ntmps6
    go_wp2
    go_region
    go_wp2
    refine bodyPost_ret (results_tmp3 rfl _ _ _) rfl ⟨rfl, (Below.refl _ _).drew⟩
set_option maxRecDepth 100000 in
theorem len_nob (v : Value) (w : World) (h : Hid (Nob w v)) : Calls Tryz.prog 10 #[v] w fun e w' => e = .returned (.int .i64 0) ∧ Below w.heap.size w w' := by
  rcases h.out with rfl | ⟨g, rfl, hB⟩
  · clear h
    go_enter Tryz.func10, Tryz.ntmps10
    go_wp2
    go_ret
    exact ⟨rfl, Below.refl _ _⟩
  · have c1 : w.cell? ⟨g, 1, none⟩ = some (.slice none 0 0) := hB.cell 1
    clear h hB
    go_enter Tryz.func10, Tryz.ntmps10
    go_wp2
    go_ret
    exact ⟨rfl, Below.refl _ _⟩
set_option maxRecDepth 100000 in
theorem part_nob (v : Value) (A : Option Addr) (n c : Nat) (w : World) (h : Hid (Nob w v)) : Calls Tryz.prog 9 #[v, .slice A n c] w fun e w' => e = .returned (.int .i64 0) ∧ Below w.heap.size w w' := by
  rcases h.out with rfl | ⟨g, rfl, hB⟩
  · clear h
    go_enter Tryz.func9, Tryz.ntmps9
    go_wp2
    go_ret
    exact ⟨rfl, Below.refl _ _⟩
  · have c0 : w.cell? ⟨g, 0, none⟩ = some (.bool false) := hB.cell 0
    clear h hB
    go_enter Tryz.func9, Tryz.ntmps9
    go_wp2
    go_ret
    exact ⟨rfl, Below.refl _ _⟩
set_option maxRecDepth 100000 in
theorem send_nob (v : Value) (cs : Array Value) (w : World) (h : Hid (Nob w v)) : Calls Tryz.prog 7 #[v, .agg cs] w fun e w' => e = .returned (.int .i64 1) ∧ Below w.heap.size w w' := by
  rcases h.out with rfl | ⟨g, rfl, hB⟩
  · clear h
    go_enter Tryz.func7, Tryz.ntmps7
    go_wp2
    go_ret
    exact ⟨rfl, (Below.refl _ _).alloc (Nat.le_refl _) _⟩
  · have c0 : (w.alloc (.cells cs 38)).cell? ⟨g, 0, none⟩ = some (.bool false) := (hB.alloc _).cell 0
    clear h hB
    go_enter Tryz.func7, Tryz.ntmps7
    go_wp2
    go_ret
    exact ⟨rfl, (Below.refl _ _).alloc (Nat.le_refl _) _⟩
set_option maxRecDepth 100000 in
theorem double_nob (v : Value) (i : Int) (w : World) (h : Hid (Nob w v)) : Calls Tryz.prog 8 #[v, .int .i64 i] w fun e w' => e = .returned (.int .i64 1) ∧ Below w.heap.size w w' := by
  have HPK := Lh (peek_nob v i w h)
  clear h
  go_enter Tryz.func8, Tryz.ntmps8
  go_wp2_with (first
    | (go_at_call 5; refine HPK.out.mono ?_; rintro e w2 ⟨rfl, hb2⟩
       have HB2 := Lh hb2
       have HN2 := Lh (Blk.new w2 38 msgZ)
       have HBa := Lh ((Below.refl w2.heap.size w2).alloc (Nat.le_refl _) (.cells msgZ 38))
       clear hb2)
    | (refine wpl_store_blk rfl 38 (.tmp 5) (.tmp 11) rfl w2.heap.size 38 msgZ msgZ rfl rfl HN2.out rfl sizeMsg rfl ?_; intro w3 hB3 hO3))
  go_ret
  exact ⟨rfl, HB2.out.trans ((HBa.out.trans (hO3.out.below (Nat.le_refl _))).mono HB2.out.size)⟩

set_option maxRecDepth 100000 in
set_option maxHeartbeats 4000000 in
theorem take_nob (v : Value) (i : Int) (w : World) (h : Hid (Nob w v)) : Calls Tryz.prog 4 #[v, .int .i64 i] w fun e w' => e = .returned (.tuple #[.agg msgZ, .int .i64 1]) ∧ Below w.heap.size w w' := by
  have HPK := Lh (fun W (k : Below w.heap.size w W) => peek_nob v i W (Lh (h.out.later k)))
  obtain ⟨w1, ew⟩ : ∃ w1, w.alloc (.cells msgZ 38) = w1 := ⟨_, rfl⟩
  have hb1 : Below w.heap.size w (w.alloc (.cells msgZ 38)) := (Below.refl _ _).alloc (Nat.le_refl _) _
  have hz := Blk.new w 38 msgZ
  rw [ew] at hb1 hz
  have ew2 : w.alloc (.cells #[.int .i64 0, .int .i64 0, .int .i64 0, .int .u64 0, .int .u64 0, .int .u64 0, .int .u64 0, .int .u64 0, .bool false, .bool false, .slice none 0 0, .slice none 0 0, .slice none 0 0, .int .u64 0, .int .i64 0, .int .u64 0, .int .i64 0, .int .i64 0, .int .i64 0, .int .u32 0, .slice none 0 0, .int .u64 0, .int .u64 0, .int .i64 0, .string ⟨#[]⟩, .int .i64 0, .slice none 0 0] 38) = w1 := ew
  have HB1 := Lh hb1
  have HZ := Lh hz
  obtain ⟨b, eb⟩ : ∃ b, w.heap.size = b := ⟨_, rfl⟩
  have EB := Lh eb
  rw [eb] at HZ
  clear hb1 hz ew h
  go_enter Tryz.func4, Tryz.ntmps4
  go_wp2_with (first
    | rw [ew2]
    | rw [eb]
    | (go_at_call 5; refine (HPK.out w1 HB1.out).mono ?_; rintro e w2 ⟨rfl, hb2⟩
       have HB2 := Lh hb2
       have HZ2 := Lh (HZ.out.below hb2 HZ.out.lt)
       have HN2 := Lh (Blk.new w2 38 msgZ)
       have HZ2a := Lh (HZ2.out.alloc (.cells msgZ 38))
       have HBa := Lh ((Below.refl w2.heap.size w2).alloc (Nat.le_refl _) (.cells msgZ 38))
       clear hb2)
    | (refine wpl_store_blk rfl 38 (.tmp 6) (.tmp 12) rfl w2.heap.size 38 msgZ msgZ rfl rfl HN2.out rfl sizeMsg rfl ?_; intro w3 hB3 hO3)
    | (refine wpl_load_blk rfl 38 (.tmp 6) rfl w2.heap.size 38 msgZ _ rfl hB3.out Tryz.underlying38 rfl sizeMsg ?_)
    | (refine wpl_store_blk rfl 38 (.tmp 4) (.tmp 59) rfl b 38 msgZ msgZ rfl rfl (hO3.out.blk HZ2a.out (by have := HZ2.out.lt; omega)) rfl sizeMsg rfl ?_; intro w4 hB4 hO4))
  clear ew2 eb
  refine bodyPost_ret (res_ct Tryz.results4 rfl rfl (load_blk hB4.out Tryz.underlying38 rfl sizeMsg)) rfl ⟨rfl, ?_⟩
  have h3 : Below w2.heap.size w2 w3 := HBa.out.trans (hO3.out.below (Nat.le_refl _))
  have hfin := (HB1.out.trans ((HB2.out.trans (h3.mono HB2.out.size)).mono HB1.out.size)).trans (hO4.out.below (by rw [EB.out]; exact Nat.le_refl _))
  first | exact hfin | (rw [EB.out] at hfin; exact hfin)
end Go.Proofs.YtijdbdenmcjmmaaGreatDoor
end
section
namespace Go.Proofs.YtijdbdenmcjmmaaGreatDoor
open Go.RowKit OctMath
set_option linter.unusedVariables false
set_option linter.unusedSimpArgs false
theorem cells_bel {w : World} {p : Addr} {cs : List Value} (h : ∀ j v, cs[j]? = some v → w.cell? (p.add j) = some v) (hp : p.block < w.heap.size) : ∀ W, Below w.heap.size w W → ∀ j v, cs[j]? = some v → W.cell? (p.add j) = some v := fun W hb j v hv => (hb.cell (p := p.add j) (by rw [block_of_add]; exact hp)).trans (h j v hv)
structure EmL (g hi : Nat) (m : EM) (w : World) : Prop where
  l1 : Ls (wMd g) 2 m.A m.x.cmd.mem.length (mcells m.x.cmd.mem) w
  h1 : 0 < m.x.cmd.mem.length → ∀ ad, m.A = some ad → ad.block < hi
  l2 : Ls (wMd g) 1 m.B m.x.voters.length (m.x.voters.map iv) w
  h2 : 0 < m.x.voters.length → ∀ ad, m.B = some ad → ad.block < hi
  l3 : Ls (wMd g) 1 m.E m.x.learners.length (m.x.learners.map iv) w
  h3 : 0 < m.x.learners.length → ∀ ad, m.E = some ad → ad.block < hi
def EmsL (g hi : Nat) (ms : List EM) (w : World) : Prop := ∀ m ∈ ms, EmL g hi m w
theorem EmL.call {g hi : Nat} {m : EM} {w w' : World} (h : EmL g hi m w) (k : Stp (wMd g) w w') : EmL g hi m w' := ⟨h.l1.call k, h.h1, h.l2.call k, h.h2, h.l3.call k, h.h3⟩
theorem EmL.alloc {g hi : Nat} {m : EM} {w : World} {s : List Nat} (h : EmL g hi m w) (hs : (wMd g).St s w) (o : Obj) : EmL g hi m (w.alloc o) := ⟨h.l1.alloc (wMd_ok g) hs o, h.h1, h.l2.alloc (wMd_ok g) hs o, h.h2, h.l3.alloc (wMd_ok g) hs o, h.h3⟩
theorem EmL.only {g hi b : Nat} {m : EM} {w w' : World} {s : List Nat} (h : EmL g hi m w) (hs : (wMd g).St s w) (ho : Only b w w') (hf : Free (wMd g) b w) (hb : hi ≤ b) : EmL g hi m w' :=
  ⟨h.l1.only (wMd_ok g) hs ho hf (fun h0 ad e => by have := h.h1 h0 ad e; omega), h.h1, h.l2.only (wMd_ok g) hs ho hf (fun h0 ad e => by have := h.h2 h0 ad e; omega), h.h2, h.l3.only (wMd_ok g) hs ho hf (fun h0 ad e => by have := h.h3 h0 ad e; omega), h.h3⟩
theorem EmL.more {g : Nat} {m : EM} {w0 w1 w w' : World} {t : TypeId} {size k : Nat} {v : Value} {xs : List Value} {s : List Nat} (h : Gr (wMd g) w0 w1 t size v k xs s w) (hg : w.grownBy w' v.ownBlock) (hL : EmL g w1.heap.size m w) : EmL g w1.heap.size m w' :=
  ⟨Ls.more (wMd_ok g) h hg hL.l1 hL.h1, hL.h1, Ls.more (wMd_ok g) h hg hL.l2 hL.h2, hL.h2, Ls.more (wMd_ok g) h hg hL.l3 hL.h3, hL.h3⟩
theorem EmL.hi_ {g hi hi' : Nat} {m : EM} {w : World} (h : EmL g hi m w) (hh : hi ≤ hi') : EmL g hi' m w := ⟨h.l1, fun a b c => Nat.lt_of_lt_of_le (h.h1 a b c) hh, h.l2, fun a b c => Nat.lt_of_lt_of_le (h.h2 a b c) hh, h.l3, fun a b c => Nat.lt_of_lt_of_le (h.h3 a b c) hh⟩
theorem wpl_gr4 {σ : Type} {M : Md σ} (hM : MdOk M) {ops : Array Oper} {rest : List Oper} {o : Oper} {a : Act} {Q : Exit → Act → World → Prop} {w0 w1 wr : World} {te : TypeId} {size : Nat} {v : Value} {k : Nat} {xs : List Value} {st : σ} (hg : o.guard = none) (s x : Operand) (ts : TypeId) (bytes : Nat)
    (hts : Tryz.prog.underlying ts = some (.slice te)) (hinfo : (Tryz.prog.info? te).map (fun i => (i.zero.map (·.cells.size), i.size, i.bytes)) = some (some size, size, bytes)) (h0 : 0 < size) (hb0 : 0 < bytes)
    (ho : o.op = .call { callee := .builtin .append, args := #[s, x], argTypes := #[ts, ts] }) (hst : Gr M w0 w1 te size v k xs st wr) (hl : (k + 1) * bytes ≤ 140737488355328) (us : List Value) (hus : us.length = 1 * size) (hu : ∀ u ∈ us, u.oneCell' = true) (hs : a.eval s = v) (hx : a.eval x = .slice (some ⟨wr.heap.size, 0, none⟩) 1 1)
    (h : ∀ v' w', Hid (Gr M w0 w1 te size v' (k + 1) (xs ++ us) st w' ∧ (wr.alloc (.cells us.toArray te)).grownBy w' v.ownBlock) → wpList Tryz.prog ops Q rest (a.put o.dst v') w') : wpList Tryz.prog ops Q (o :: rest) a (wr.alloc (.cells us.toArray te)) := by
  obtain ⟨ii, z, q1, q2, hz, q3, q4⟩ := info_parts' hinfo
  have hst' := hst.alloc hM (.cells us.toArray te)
  have e : (wr.alloc (.cells us.toArray te)).heap.size = wr.heap.size + 1 := by simp
  have hk : (k + 1) ≤ maxLen := by
    unfold maxLen
    have : (k + 1) * 1 ≤ (k + 1) * bytes := Nat.mul_le_mul_left _ hb0
    omega
  exact wpList_append_any _ hg s x ts ho w1.heap.size te ii z size bytes hts q1 q2 q3 q4 hz h0 v k xs hs hst'.own (wr.heap.size + 1) (some ⟨wr.heap.size, 0, none⟩) 1 1 us hx (Reads.lit wr te us size 1 hus) hu hk hl (by have := hst.hi; omega) (fun v' w' h1 h2 h3 => h v' w' (Lh ⟨hst'.more hM hst'.hi h1 h2 h3, h2⟩))
theorem wpl_build1 {ops : Array Oper} {rest : List Oper} {o : Oper} {a : Act} {w : World} {Q : Exit → Act → World → Prop} (hgd : o.guard = none) (x : Operand) (ho : o.op = .buildSlice 24 1 #[(0, x)]) (cs : Array Value) (hcs : cs.size = 21) (hx : a.eval x = .agg cs)
    (h : wpList Tryz.prog ops Q rest (a.put o.dst (.slice (some ⟨w.heap.size, 0, none⟩) 1 1)) (w.alloc (.cells cs 86))) : wpList Tryz.prog ops Q (o :: rest) a w := wpList_plain hgd fun _ hK => wp_build1 x ho cs hcs hx (hK _ _ h)
set_option maxRecDepth 100000 in
set_option maxHeartbeats 8000000 in
theorem pw_entries (g : Nat) (ys : List Nat) (A : Option Addr) (n cap : Nat) (ms : List EM) (w : World) (hS : Hid ((wMd g).St ys w)) (hL : Hid (Ls (wMd g) 21 A n (ms.flatMap emCs) w)) (hU : Hid (EmsL g w.heap.size ms w)) (hn : Hid (ms.length = n)) (hn2 : n ≤ 1048576) (hI : Hid (∀ m ∈ ms, EntOk m.x)) (hf : Hid (ys.length + 10 + n * 42992040 ≤ 70000000000000)) :
    Calls Tryz.prog 62 #[.pointer (some ⟨g, 0, none⟩), .slice A n cap] w fun e w' => ∃ A1 c1, e = .returned (.slice A1 n c1) ∧ (wMd g).St (ys ++ (putN n ++ emB ms)) w' ∧ Stp (wMd g) w w' := by
  have hM := Lh (wMd_ok g)
  have HC := Lh (hM.out.c_len ys n w hS (by omega) (by have := hf.out; show ys.length + 10 ≤ 70000000000000; omega))
  go_enter Tryz.func62, Tryz.ntmps62
  go_wp2_with fail
  refine HC.out.mono ?_
  rintro e w2 ⟨rfl, hs1, hk1⟩
  have HG0 := Lh (Gr.start 86 21 ((Wk.start hS.out).call hs1 hk1))
  have HL1 := Lh (hL.out.call hk1)
  have HA := Lh (show 0 < n → ∀ ad, A = some ad → ad.block < w2.heap.size from fun h ad e => (HL1.out.free h ad e).lt)
  have HU1 := Lh (show EmsL g w2.heap.size ms w2 from fun m hm => ((hU.out m hm).call hk1).hi_ hk1.size)
  clear hs1 hk1 HC
  go_wp2
  go_loopw [6, 7, 8] (fun vo vi _ wr => ∃ (k : Nat) (zs : List Value), k ≤ n ∧ vi = .int .i64 k ∧ Hid (Gr (wMd g) w w2 86 21 vo k zs (ys ++ putN n ++ emB (ms.take k)) wr) ∧ Hid (Ls (wMd g) 21 A n (ms.flatMap emCs) wr) ∧ Hid (EmsL g w2.heap.size ms wr)) (fun _ vi _ _ => n - (intOf vi).toNat)
  case atStart => exact ⟨0, [], by omega, rfl, Lh (by have h := HG0.out; rw [List.take_zero, show emB ([] : List EM) = [] from rfl, List.append_nil]; exact h), HL1, HU1⟩
  case round =>
    obtain ⟨k, zs, hk, rfl, hG, hLr, hUr⟩ := hrel
    clear HG0 HL1 HU1
    have hcw := hM.out.cwrite hG.out.wk.st
    have hcb := hM.out.cbad hG.out.wk.st
    have hcw : wr.cell? ⟨g, 2, none⟩ = some (.bool true) := hcw
    have hcb : wr.cell? ⟨g, 3, none⟩ = some (.bool false) := hcb
    by_cases hlt : k < n
    · have d1 : decide (k < n) = true := decide_eq_true hlt
      have hke : k < ms.length := by rw [hn.out]; exact hlt
      obtain ⟨ad, hA, hbl, hc⟩ := hLr.out.rd.2 (by omega : 0 < n)
      subst hA
      have hrow := em_cells hc hke
      have hmm := List.getElem_mem hke
      have htk := emB_take hke
      obtain ⟨m0, hm0⟩ : ∃ m0, ms[k] = m0 := ⟨_, rfl⟩
      rw [hm0] at hrow hmm htk
      have hrw := Lh (hUr.out m0 hmm)
      have HOE := Lh (hI.out m0 hmm)
      have HTK := Lh htk
      have HROW := Lh (cells_bel hrow (by rw [block_of_add]; exact hbl) : ∀ W, Below wr.heap.size wr W → _)
      have hfk : (ys ++ putN n ++ emB (ms.take k)).length + 42992040 ≤ 70000000000000 := by
        have h1 := hf.out
        have h2 := putN_len10 (n := n) (by omega)
        have h3 := emB_len (es := ms.take k) (fun m hm => hI.out m (List.mem_of_mem_take hm))
        rw [List.length_take, Nat.min_eq_left (by omega)] at h3
        have h4 : (k + 1) * 42992040 ≤ n * 42992040 := Nat.mul_le_mul_right _ hlt
        rw [Nat.succ_mul] at h4
        rw [List.length_append, List.length_append]
        omega
      have HFK := Lh hfk
      clear hc hbl hrow hm0 hmm htk hke hfk
      obtain ⟨x, hx⟩ : ∃ x, wr.heap.size = x := ⟨_, rfl⟩
      have hbs := Lh (hG.out.off (Nat.le_refl _))
      have haL := Lh (hLr.out.apart (Nat.le_refl _))
      have hhi := hG.out.hi
      have hnw := Blk.new wr 86 #[.int .u64 0, .int .u64 0, .int .i64 0, .int .i64 0, .int .u64 0, .int .u64 0, .string ⟨#[]⟩, .int .i64 0, .int .u32 0, .int .u64 0, .int .u64 0, .int .i64 0, .int .i64 0, .bool false, .int .u64 0, .int .i64 0, .int .u64 0, .int .u64 0, .slice none 0 0, .slice none 0 0, .slice none 0 0]
      rw [hx] at hbs haL hnw hhi
      have HHI := Lh hhi
      have HNW := Lh hnw
      clear hnw hhi
      go_wp2_with (first
        | (refine wpl_store_blk rfl 86 (.tmp 8) (.tmp 25) rfl x 86 #[.int .u64 0, .int .u64 0, .int .i64 0, .int .i64 0, .int .u64 0, .int .u64 0, .string ⟨#[]⟩, .int .i64 0, .int .u32 0, .int .u64 0, .int .u64 0, .int .i64 0, .int .i64 0, .bool false, .int .u64 0, .int .i64 0, .int .u64 0, .int .u64 0, .slice none 0 0, .slice none 0 0, .slice none 0 0] #[.int .u64 0, .int .u64 0, .int .i64 0, .int .i64 0, .int .u64 0, .int .u64 0, .string ⟨#[]⟩, .int .i64 0, .int .u32 0, .int .u64 0, .int .u64 0, .int .i64 0, .int .i64 0, .bool false, .int .u64 0, .int .i64 0, .int .u64 0, .int .u64 0, .slice none 0 0, .slice none 0 0, .slice none 0 0] rfl rfl HNW.out rfl Tryz.sizeE rfl ?_; intro w4 hB4 hO4
           have hX := (Bk.new hM.out hG.out.wk #[.int .u64 0, .int .u64 0, .int .i64 0, .int .i64 0, .int .u64 0, .int .u64 0, .string ⟨#[]⟩, .int .i64 0, .int .u32 0, .int .u64 0, .int .u64 0, .int .i64 0, .int .i64 0, .bool false, .int .u64 0, .int .i64 0, .int .u64 0, .int .u64 0, .slice none 0 0, .slice none 0 0, .slice none 0 0] 86)
           have hG4 := hG.out.alloc hM.out (.cells #[.int .u64 0, .int .u64 0, .int .i64 0, .int .i64 0, .int .u64 0, .int .u64 0, .string ⟨#[]⟩, .int .i64 0, .int .u32 0, .int .u64 0, .int .u64 0, .int .i64 0, .int .i64 0, .bool false, .int .u64 0, .int .i64 0, .int .u64 0, .int .u64 0, .slice none 0 0, .slice none 0 0, .slice none 0 0] 86)
           rw [hx] at hX
           have X4 := Lh (hX.turn hM.out hG4.wk.st hO4.out hB4.out)
           have G4 := Lh (hG4.only hM.out hX hO4.out hbs.out)
           have L4 := Lh ((hLr.out.alloc hM.out hG.out.wk.st (.cells #[.int .u64 0, .int .u64 0, .int .i64 0, .int .i64 0, .int .u64 0, .int .u64 0, .string ⟨#[]⟩, .int .i64 0, .int .u32 0, .int .u64 0, .int .u64 0, .int .i64 0, .int .i64 0, .bool false, .int .u64 0, .int .i64 0, .int .u64 0, .int .u64 0, .slice none 0 0, .slice none 0 0, .slice none 0 0] 86)).only hM.out hG4.wk.st hO4.out hX.free haL.out)
           have U4 := Lh (show EmsL g w2.heap.size ms w4 from fun m hm => ((hUr.out m hm).alloc hG.out.wk.st (.cells #[.int .u64 0, .int .u64 0, .int .i64 0, .int .i64 0, .int .u64 0, .int .u64 0, .string ⟨#[]⟩, .int .i64 0, .int .u32 0, .int .u64 0, .int .u64 0, .int .i64 0, .int .i64 0, .bool false, .int .u64 0, .int .i64 0, .int .u64 0, .int .u64 0, .slice none 0 0, .slice none 0 0, .slice none 0 0] 86)).only hG4.wk.st hO4.out hX.free HHI.out)
           have W4 := Lh ((hrw.out.alloc hG.out.wk.st (.cells #[.int .u64 0, .int .u64 0, .int .i64 0, .int .i64 0, .int .u64 0, .int .u64 0, .string ⟨#[]⟩, .int .i64 0, .int .u32 0, .int .u64 0, .int .u64 0, .int .i64 0, .int .i64 0, .bool false, .int .u64 0, .int .i64 0, .int .u64 0, .int .u64 0, .slice none 0 0, .slice none 0 0, .slice none 0 0] 86)).only hG4.wk.st hO4.out hX.free HHI.out)
           have pw := hM.out.cwrite G4.out.wk.st
           have pw2 : w4.cell? ⟨g, 2, none⟩ = some (.bool true) := pw
           have HRW := Lh (HROW.out w4 (((Below.refl _ _).alloc (Nat.le_refl _) _).trans (hO4.out.below (by rw [hx]; exact Nat.le_refl _))))
           clear hX hG4 hB4 hO4 pw)
        | (refine wpl_load_at rfl 86 (.tmp 32) rfl (ad.add (k * 21)) (#[.int .u64 (m0.x.index : Int), .int .u64 (m0.x.term : Int), .int .i64 m0.x.kind, .int .i64 m0.x.cmd.kind, .int .u64 (m0.x.cmd.client : Int), .int .u64 (m0.x.cmd.seq : Int), .string (strOf m0.x.cmd.key), .int .i64 m0.x.cmd.size, .int .u32 (m0.x.cmd.sum : Int), .int .u64 (m0.x.cmd.version : Int), .int .u64 (m0.x.cmd.epoch : Int), .int .i64 m0.x.cmd.group, .int .i64 m0.x.cmd.node, .bool m0.x.cmd.up, .int .u64 (m0.x.cmd.id.ver : Int), .int .i64 m0.x.cmd.id.idx, .int .u64 (m0.x.cmd.id.ep : Int), .int .u64 (m0.x.cmd.mep : Int), .slice m0.A m0.x.cmd.mem.length m0.c, .slice m0.B m0.x.voters.length m0.d, .slice m0.E m0.x.learners.length m0.f] : Array Value).toList _ rfl HRW.out Tryz.underlying86 rfl Tryz.sizeE ?_)
        | (refine wpl_store_blk rfl 86 (.tmp 8) (.tmp 33) rfl x 86 _ #[.int .u64 (m0.x.index : Int), .int .u64 (m0.x.term : Int), .int .i64 m0.x.kind, .int .i64 m0.x.cmd.kind, .int .u64 (m0.x.cmd.client : Int), .int .u64 (m0.x.cmd.seq : Int), .string (strOf m0.x.cmd.key), .int .i64 m0.x.cmd.size, .int .u32 (m0.x.cmd.sum : Int), .int .u64 (m0.x.cmd.version : Int), .int .u64 (m0.x.cmd.epoch : Int), .int .i64 m0.x.cmd.group, .int .i64 m0.x.cmd.node, .bool m0.x.cmd.up, .int .u64 (m0.x.cmd.id.ver : Int), .int .i64 m0.x.cmd.id.idx, .int .u64 (m0.x.cmd.id.ep : Int), .int .u64 (m0.x.cmd.mep : Int), .slice m0.A m0.x.cmd.mem.length m0.c, .slice m0.B m0.x.voters.length m0.d, .slice m0.E m0.x.learners.length m0.f] rfl rfl X4.out.blk rfl Tryz.sizeE rfl ?_; intro w5 hB5 hO5
           have G := Lh (G4.out.only hM.out X4.out hO5.out hbs.out)
           have X := Lh (X4.out.turn hM.out G4.out.wk.st hO5.out hB5.out)
           have L := Lh (L4.out.only hM.out G4.out.wk.st hO5.out X4.out.free haL.out)
           have U := Lh (show EmsL g w2.heap.size ms w5 from fun m hm => (U4.out m hm).only G4.out.wk.st hO5.out X4.out.free HHI.out)
           have RW := Lh (W4.out.only G4.out.wk.st hO5.out X4.out.free HHI.out)
           clear pw2 hB5 hO5 G4 X4 L4 HRW U4 W4)
        | (refine wpl_load_blk rfl 86 (.tmp 8) rfl x 86 _ _ rfl X.out.blk Tryz.underlying86 rfl Tryz.sizeE ?_))
      have HC := Lh (pf_entry (wMd g) hM.out (ys ++ putN n ++ emB (ms.take k)) m0.A m0.c m0.B m0.d m0.E m0.f m0.x _ (Lh G.out.wk.st) (Lh RW.out.l1) (Lh RW.out.l2) (Lh RW.out.l3) HOE.out (Lh fun h => by cases h) (Lh fun h => by cases h) (Lh fun h => by cases h) (Lh HFK.out))
      rw [w_ent] at HC
      refine HC.out.mono ?_
      rintro e w6 ⟨A6, c6, B6, d6, E6, f6, rfl, l6, l7, l8, hs, hk⟩
      clear HC RW
      generalize (entF (wMd g) (ys ++ putN n ++ emB (ms.take k)) m0.x).2 = z at *
      unfold entCs
      have L := Lh (L.out.call hk)
      have U := Lh (show EmsL g w2.heap.size ms w6 from fun m hm => (U.out m hm).call hk)
      have G := Lh (G.out.call hs hk)
      clear hs hk l6 l7 l8
      go_wp2_with (first
        | (refine wpl_build1 rfl (.tmp 37) rfl #[.int .u64 (z.index : Int), .int .u64 (z.term : Int), .int .i64 z.kind, .int .i64 z.cmd.kind, .int .u64 (z.cmd.client : Int), .int .u64 (z.cmd.seq : Int), .string (strOf z.cmd.key), .int .i64 z.cmd.size, .int .u32 (z.cmd.sum : Int), .int .u64 (z.cmd.version : Int), .int .u64 (z.cmd.epoch : Int), .int .i64 z.cmd.group, .int .i64 z.cmd.node, .bool z.cmd.up, .int .u64 (z.cmd.id.ver : Int), .int .i64 z.cmd.id.idx, .int .u64 (z.cmd.id.ep : Int), .int .u64 (z.cmd.mep : Int), .slice A6 z.cmd.mem.length c6, .slice B6 z.voters.length d6, .slice E6 z.learners.length f6] rfl rfl ?_)
        | (at_builtin
           refine wpl_gr4 hM.out rfl _ _ 24 224 Tryz.underlying24 Tryz.infoEnB (by decide) (by decide) rfl G.out (by omega) (#[.int .u64 (z.index : Int), .int .u64 (z.term : Int), .int .i64 z.kind, .int .i64 z.cmd.kind, .int .u64 (z.cmd.client : Int), .int .u64 (z.cmd.seq : Int), .string (strOf z.cmd.key), .int .i64 z.cmd.size, .int .u32 (z.cmd.sum : Int), .int .u64 (z.cmd.version : Int), .int .u64 (z.cmd.epoch : Int), .int .i64 z.cmd.group, .int .i64 z.cmd.node, .bool z.cmd.up, .int .u64 (z.cmd.id.ver : Int), .int .i64 z.cmd.id.idx, .int .u64 (z.cmd.id.ep : Int), .int .u64 (z.cmd.mep : Int), .slice A6 z.cmd.mem.length c6, .slice B6 z.voters.length d6, .slice E6 z.learners.length f6] : Array Value).toList rfl (by intro u hu; exact List.all_eq_true.1 (show ((#[.int .u64 (z.index : Int), .int .u64 (z.term : Int), .int .i64 z.kind, .int .i64 z.cmd.kind, .int .u64 (z.cmd.client : Int), .int .u64 (z.cmd.seq : Int), .string (strOf z.cmd.key), .int .i64 z.cmd.size, .int .u32 (z.cmd.sum : Int), .int .u64 (z.cmd.version : Int), .int .u64 (z.cmd.epoch : Int), .int .i64 z.cmd.group, .int .i64 z.cmd.node, .bool z.cmd.up, .int .u64 (z.cmd.id.ver : Int), .int .i64 z.cmd.id.idx, .int .u64 (z.cmd.id.ep : Int), .int .u64 (z.cmd.mep : Int), .slice A6 z.cmd.mem.length c6, .slice B6 z.voters.length d6, .slice E6 z.learners.length f6] : Array Value).toList).all (·.oneCell') = true from rfl) u hu) rfl rfl ?_
           intro v10 w10 hG10))
      refine ⟨⟨k + 1, zs ++ (#[.int .u64 (z.index : Int), .int .u64 (z.term : Int), .int .i64 z.kind, .int .i64 z.cmd.kind, .int .u64 (z.cmd.client : Int), .int .u64 (z.cmd.seq : Int), .string (strOf z.cmd.key), .int .i64 z.cmd.size, .int .u32 (z.cmd.sum : Int), .int .u64 (z.cmd.version : Int), .int .u64 (z.cmd.epoch : Int), .int .i64 z.cmd.group, .int .i64 z.cmd.node, .bool z.cmd.up, .int .u64 (z.cmd.id.ver : Int), .int .i64 z.cmd.id.idx, .int .u64 (z.cmd.id.ep : Int), .int .u64 (z.cmd.mep : Int), .slice A6 z.cmd.mem.length c6, .slice B6 z.voters.length d6, .slice E6 z.learners.length f6] : Array Value).toList, by omega, by go_num, Lh ?_, Lh (Ls.more hM.out (G.out.alloc hM.out _) hG10.out.2 (L.out.alloc hM.out G.out.wk.st _) HA.out), Lh (fun m hm => EmL.more (G.out.alloc hM.out _) hG10.out.2 ((U.out m hm).alloc G.out.wk.st _))⟩, by simp [intOf]; omega⟩
      rw [HTK.out, ← List.append_assoc]
      exact hG10.out.1
    · obtain rfl : k = n := by omega
      go_wp2
      go_ret
      obtain ⟨A1, c1, rfl, -, -⟩ := own_slice hG.out.own
      have h := hG.out.wk
      rw [← hn.out, List.take_length, List.append_assoc] at h
      exact ⟨A1, c1, rfl, by rw [← hn.out]; exact h.st, h.stp⟩
end Go.Proofs.YtijdbdenmcjmmaaGreatDoor
end
