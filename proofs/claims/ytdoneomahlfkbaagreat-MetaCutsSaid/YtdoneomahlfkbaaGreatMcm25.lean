/-
  A DRAWN REGION AT WHOSE HEAD THREE OPERATIONS MAY COME UP; THE LAWS' FIRST STATES; what a loop that applies commands keeps. (printed by gen_mel3.py). (joined out of RegL3, MeL3 by shake.py)
-/
import Derived.Test.YtdoneomahlfkbaaGreatMcm03
import Derived.Test.YtdoneomahlfkbaaGreatMcm24
section
namespace Go.Proofs.YtdoneomahlfkbaaGreat
open Go
set_option linter.unusedVariables false
section
variable {P : Program} {l : List Oper} {md : Region.Mode} {Q : Exit → Act → World → Prop} {S0 S : World → Prop} {s : Nat}
theorem wpAnyT_three (i j k : Nat) {oi oj ok : Oper} {rest rest' rest'' : List Oper} {fuel : Nat} {listed : Array Bool} {a : Act} {w : World} (hd : l.drop i = oi :: rest) (hd' : l.drop j = oj :: rest') (hd'' : l.drop k = ok :: rest'') (hr : Region.ready md l.toArray listed = [i, j, k])
    (h : ∀ K : Act → World → Prop, Shut (∀ a w, S0 w ∧ S w → (S0 w ∧ S w → wpAnyT P md l Q S0 S s fuel (listed.setIfInBounds i true) a w) → K a w) → if Region.wanted oi (yielded l.toArray a.tmps) = true then Oper.wp P oi a w K Q else K (a.put oi.dst undef) w)
    (h' : ∀ K : Act → World → Prop, Shut (∀ a w, S0 w ∧ S w → (S0 w ∧ S w → wpAnyT P md l Q S0 S s fuel (listed.setIfInBounds j true) a w) → K a w) → if Region.wanted oj (yielded l.toArray a.tmps) = true then Oper.wp P oj a w K Q else K (a.put oj.dst undef) w)
    (h'' : ∀ K : Act → World → Prop, Shut (∀ a w, S0 w ∧ S w → (S0 w ∧ S w → wpAnyT P md l Q S0 S s fuel (listed.setIfInBounds k true) a w) → K a w) → if Region.wanted ok (yielded l.toArray a.tmps) = true then Oper.wp P ok a w K Q else K (a.put ok.dst undef) w) :
    wpAnyT P md l Q S0 S s (fuel + 1) listed a w := by
  refine ⟨fun h0 => (by rw [hr] at h0; cases h0), fun q hq => ?_⟩
  rw [hr] at hq
  rcases List.mem_cons.1 hq with rfl | hq
  · exact wpOp_step (drop_get hd) (fun K hK => h K (fun a w hS hW => hK a w ⟨⟨hS.1, fun _ => hS.2⟩, hW hS⟩))
  · rcases List.mem_cons.1 hq with rfl | hq
    · exact wpOp_step (drop_get hd') (fun K hK => h' K (fun a w hS hW => hK a w ⟨⟨hS.1, fun _ => hS.2⟩, hW hS⟩))
    · obtain rfl : q = k := by simpa using hq
      exact wpOp_step (drop_get hd'') (fun K hK => h'' K (fun a w hS hW => hK a w ⟨⟨hS.1, fun _ => hS.2⟩, hW hS⟩))
end
end Go.Proofs.YtdoneomahlfkbaaGreat
end
section
namespace Go.Proofs.YtdoneomahlfkbaaGreat
open Go.RowKit OctMath StrMath PlMath
set_option linter.unusedVariables false
set_option linter.unusedSimpArgs false
theorem reads_blk {w : World} {b : Nat} {t : TypeId} {cs : Array Value} {K n : Nat} (h : Blk w b t cs) (hs : cs.size = n * K) : Reads w w.heap.size K (some ⟨b, 0, none⟩) n cs.toList :=
  ⟨by rw [Array.length_toList]; exact hs, fun _ => ⟨_, rfl, h.lt, fun j u hu => by rw [addr0, h.cell, ← Array.getElem?_toList]; exact hu⟩⟩
set_option maxRecDepth 100000 in
theorem two_any (w : World) : Calls Tryz.prog 14 #[] w fun e w' => ∃ A c, e = .returned (.agg #[.int .u64 1, .slice A 2 c]) ∧ (⟨2, A, c, 2, mcells [(1, 1), (2, 1)]⟩ : RowT).In w' ∧ Below w.heap.size w w' := by
  go_enter Tryz.func14, Tryz.ntmps14
  go_wp2
  have h1 := (Blk.new w 27 #[.int .u64 1, .slice (some ⟨w.heap.size + 1, 0, none⟩) 2 2]).alloc (.cells #[.int .i64 1, .int .i64 1, .int .i64 2, .int .i64 1] 67)
  have h2 := Blk.new (w.alloc (.cells #[.int .u64 1, .slice (some ⟨w.heap.size + 1, 0, none⟩) 2 2] 27)) 67 #[.int .i64 1, .int .i64 1, .int .i64 2, .int .i64 1]
  rw [show (w.alloc (.cells #[.int .u64 1, .slice (some ⟨w.heap.size + 1, 0, none⟩) 2 2] 27)).heap.size = w.heap.size + 1 from by simp] at h2
  refine bodyPost_ret (res_c Tryz.results14 rfl (load_blk h1 Tryz.underlying27 rfl Tryz.szMp)) rfl ⟨_, _, rfl, ⟨reads_blk h2 rfl, Nat.le_refl _, by show 2 ≤ maxLen; unfold maxLen; omega⟩, ?_⟩
  exact ((Below.refl _ _).alloc (Nat.le_refl _) _).alloc (by simp) _
structure ApI (wr : World) (G : List Nat) (m : MM) (x : World) : Prop where
  bel : Below wr.heap.size wr x
  inn : MIn m x
  off : ∀ q ∈ G, m.All (·.Off q)
theorem ApI.alloc {wr x x' : World} {G : List Nat} {m : MM} {b : Nat} (h : ApI wr G m x) (hb : Below x.heap.size x x') (hl : x.heap.size ≤ b) : ApI wr (b :: G) m x' :=
  ⟨h.bel.trans (hb.mono h.bel.size), h.inn.later hb, fun q hq => by
    rcases List.mem_cons.1 hq with rfl | hq
    · exact h.inn.rows.imp fun r hr => hr.off hl
    · exact h.off q hq⟩
theorem ApI.store {wr x x' : World} {G : List Nat} {m : MM} {b : Nat} (h : ApI wr G m x) (ho : Only b x x') (hm : b ∈ G) (hl : wr.heap.size ≤ b) : ApI wr G m x' :=
  ⟨h.bel.trans (ho.below hl), ⟨⟨fun r k => (h.inn.rows.top r k).grown ((h.off b hm).top r k) ho.grown, fun r k => (h.inn.rows.os r k).grown ((h.off b hm).os r k) ho.grown, fun r k => (h.inn.rows.is r k).grown ((h.off b hm).is r k) ho.grown⟩, h.inn.os, h.inn.is, h.inn.wf⟩, h.off⟩
theorem min_store {x x' : World} {m : MM} {b : Nat} (h : MIn m x) (ho : Only b x x') (hf : m.All (·.Off b)) : MIn m x' :=
  ⟨⟨fun r k => (h.rows.top r k).grown (hf.top r k) ho.grown, fun r k => (h.rows.os r k).grown (hf.os r k) ho.grown, fun r k => (h.rows.is r k).grown (hf.is r k) ho.grown⟩, h.os, h.is, h.wf⟩
structure ApS (wr : World) (G : List Nat) (p : MetT × ResT) (m : MM) (b7 b8 : Nat) (rr : Array Value) (x : World) : Prop where
  res : ∃ A c, rr = rcs p.2 A c
  eq : m.x = p.1
  in_ : ApI wr (b7 :: b8 :: G) m x
  t7 : Blk x b7 34 m.cs
  t8 : Blk x b8 39 rr
  g7 : wr.heap.size ≤ b7
  g8 : wr.heap.size ≤ b8
theorem ApS.mk' {wr x : World} {G G' : List Nat} {p : MetT × ResT} {m : MM} {b7 b8 : Nat} {rr : Array Value} (h : ApI wr G' m x) (hG : ∀ q ∈ G, q ∈ G') (h7 : b7 ∈ G') (h8 : b8 ∈ G') (e : ∃ A c, rr = rcs p.2 A c) (ex : m.x = p.1) (t7 : Blk x b7 34 m.cs) (t8 : Blk x b8 39 rr) (g7 : wr.heap.size ≤ b7) (g8 : wr.heap.size ≤ b8) : ApS wr G p m b7 b8 rr x :=
  ⟨e, ex, ⟨h.bel, h.inn, fun q hq => by
    rcases List.mem_cons.1 hq with rfl | hq
    · exact h.off _ h7
    · rcases List.mem_cons.1 hq with rfl | hq
      · exact h.off _ h8
      · exact h.off q (hG q hq)⟩, t7, t8, g7, g8⟩
theorem ap_calls {w wr : World} {m : MM} {k : Nat} {G : List Nat} (hI : MIn m wr) (hR : RunS m.x k) (hk : k ≤ 50000) (hoff : ∀ q ∈ G, m.All (·.Off q)) (hG : ∀ q ∈ G, w.heap.size ≤ q ∧ q < wr.heap.size) (hw : Below w.heap.size w wr) (c : CM) (hc : CmW w c) :
    ∀ W, Below wr.heap.size wr W → ∀ G1 : List Nat, (∀ q ∈ G1, wr.heap.size ≤ q ∧ q < W.heap.size) → Calls Tryz.prog 9 #[.agg m.cs, .int .u64 ((k + 1 : Nat) : Int), .agg (cmdCs c.x c.A c.c)] W (RetApp (applyM plF m.x (k + 1) c.x) (G1 ++ G) W) := fun W hW G1 h1 =>
  apply_any m (k + 1) c.x c.A c.c W (Lh (hI.later hW)) (Lh (mst_of hR.may)) (Lh (hR.siz (by omega))) (by have := hR.last; omega) (by omega) (Lh ((hc.row.later hw).later hW)) hc.ok.m64 hc.ok.key hc.ok.keyL (G1 ++ G) (Lh fun q hq => by
    rcases List.mem_append.1 hq with hq | hq
    · exact ⟨(h1 q hq).2, hI.rows.imp fun r hr => hr.off (h1 q hq).1, (hc.row.later hw).off (h1 q hq).1⟩
    · exact ⟨Nat.lt_of_lt_of_le (hG q hq).2 hW.size, hoff q hq, hc.row.off (hG q hq).1⟩)
theorem ApS.later {wr x x' : World} {G : List Nat} {p : MetT × ResT} {m : MM} {b7 b8 : Nat} {rr : Array Value} (h : ApS wr G p m b7 b8 rr x) (hb : Below x.heap.size x x') : ApS wr G p m b7 b8 rr x' :=
  ⟨h.res, h.eq, ⟨h.in_.bel.trans (hb.mono h.in_.bel.size), h.in_.inn.later hb, h.in_.off⟩, h.t7.below hb h.t7.lt, h.t8.below hb h.t8.lt, h.g7, h.g8⟩
structure RunW (w : World) (G : List Nat) (b : Nat) (m : MM) (k : Nat) (wr : World) : Prop where
  bel : Below w.heap.size w wr
  blk : Blk wr b 34 m.cs
  inn : MIn m wr
  off : ∀ q ∈ G, m.All (·.Off q)
  lt : ∀ q ∈ G, w.heap.size ≤ q ∧ q < wr.heap.size
  mem : b ∈ G
  run : RunS m.x k
theorem RunW.later {w wr w' : World} {G : List Nat} {b k : Nat} {m : MM} (h : RunW w G b m k wr) (hb : Below wr.heap.size wr w') : RunW w G b m k w' :=
  ⟨h.bel.trans (hb.mono h.bel.size), h.blk.below hb h.blk.lt, h.inn.later hb, h.off, fun q hq => ⟨(h.lt q hq).1, Nat.lt_of_lt_of_le (h.lt q hq).2 hb.size⟩, h.mem, h.run⟩
theorem RunW.next {w wr x x' : World} {G : List Nat} {b k b7 b8 : Nat} {m m' : MM} {c : CmdT} {rr : Array Value} (h : RunW w G b m k wr) (hk : k ≤ 50000) (a : ApS wr G (applyM plF m.x (k + 1) c) m' b7 b8 rr x) (hB : Blk x' b 34 m'.cs) (ho : Only b x x') : RunW w G b m' (k + 1) x' :=
  have hlt : b < x.heap.size := Nat.lt_of_lt_of_le (h.lt b h.mem).2 a.in_.bel.size
  ⟨(h.bel.trans (a.in_.bel.mono h.bel.size)).trans (ho.below (h.lt b h.mem).1), hB, ⟨⟨fun r q => (a.in_.inn.rows.top r q).grown ((a.in_.off b (by simp [h.mem])).top r q) ho.grown, fun r q => (a.in_.inn.rows.os r q).grown ((a.in_.off b (by simp [h.mem])).os r q) ho.grown, fun r q => (a.in_.inn.rows.is r q).grown ((a.in_.off b (by simp [h.mem])).is r q) ho.grown⟩, a.in_.inn.os, a.in_.inn.is, a.in_.inn.wf⟩,
    fun q hq => a.in_.off q (by simp [hq]), fun q hq => ⟨(h.lt q hq).1, by rw [ho.size]; exact Nat.lt_of_lt_of_le (h.lt q hq).2 a.in_.bel.size⟩, h.mem, by rw [a.eq]; exact h.run.apply (by omega) c⟩
end Go.Proofs.YtdoneomahlfkbaaGreat
end
