/-
  THE PROGRAM'S WRITER: records. (printed by gen_pas2.py). (joined out of PaS3 by shake.py)
-/
import Derived.Test.YtijdbdenmcjmmaaGreatDoorNen18
import Derived.Test.YtijdbdenmcjmmaaGreatDoorNen17
section
namespace Go.Proofs.YtijdbdenmcjmmaaGreatDoor
open Go.RowKit OctMath
set_option linter.unusedVariables false
theorem pFlag_len (b : Bool) : (pFlag b).length ≤ 10 := by unfold pFlag; simp
theorem pText_len {x : List Nat} (h : (∀ y ∈ x, y < 256) ∧ x.length ≤ 1048576) : (pText x).length ≤ 1048586 := by
  have := putN_len10 (n := x.length) (by omega)
  unfold pText
  rw [List.length_append]; omega
theorem pList_len {α : Type} (put : α → List Nat) (c : Nat) (l : List α) (h : ∀ x ∈ l, (put x).length ≤ c) (hl : l.length ≤ 1048576) : (pList put l).length ≤ 10 + c * l.length := by
  have h1 := flat_len put c l h
  have h2 := putN_len10 (n := l.length) (by omega)
  unfold pList
  rw [List.length_append]; omega
theorem pInts_len {x : List Int} (h : IntsOk x) : (pList pInt x).length ≤ 10485770 := by
  have h1 := pList_len pInt 10 x (fun y hy => pInt_len (h.1 y hy)) h.2
  have := h.2
  omega
theorem pMem_len {x : Int × Int} (h : MemOk x) : (pMem x).length ≤ 20 := by
  have h1 := pInt_len (x := x.1) h.1
  have h2 := pInt_len (x := x.2) h.2
  unfold pMem
  rw [List.length_append]; omega
theorem pMems_len {x : List (Int × Int)} (h : (∀ y ∈ x, MemOk y) ∧ x.length ≤ 1048576) : (pList pMem x).length ≤ 20971530 := by
  have h1 := pList_len pMem 20 x (fun y hy => pMem_len (h.1 y hy)) h.2
  have := h.2
  omega
theorem pId_len {x : IdT} (HO : IdOk x) : (pId x).length ≤ 30 := by
  have h0 := putN_len10 (n := x.ver) HO.1
  have h1 := pInt_len (x := x.idx) HO.2.1
  have h2 := putN_len10 (n := x.ep) HO.2.2
  unfold pId
  simp only [List.length_append]
  omega
set_option maxRecDepth 100000 in
set_option maxHeartbeats 4000000 in
theorem sh_id (H : Nat → Prop) (g : Nat) (xs : List Nat) (x : IdT) (w : World) (hp : Hid (Sh H g xs w)) (hS : Hid (Safe H g w))  (HO : IdOk x) (hl : xs.length + 30 ≤ 70000000000000) :
    Calls Tryz.prog 85 #[.pointer (some ⟨g, 0, none⟩), .agg #[.int .u64 (x.ver : Int), .int .i64 x.idx, .int .u64 (x.ep : Int)]] w (RetW H g (xs ++ pId x) w) := by
  have HO := Lh HO
  have HL := Lh hl
  obtain ⟨w0, ew0⟩ : ∃ w0, w.alloc (.cells #[.int .u64 (x.ver : Int), .int .i64 x.idx, .int .u64 (x.ep : Int)] 29) = w0 := ⟨_, rfl⟩
  have hb : Below w.heap.size w (w.alloc (.cells #[.int .u64 (x.ver : Int), .int .i64 x.idx, .int .u64 (x.ep : Int)] 29)) := (Below.refl _ _).alloc (Nat.le_refl _) _
  have hx : Blk (w.alloc (.cells #[.int .u64 (x.ver : Int), .int .i64 x.idx, .int .u64 (x.ep : Int)] 29)) w.heap.size 29 #[.int .u64 (x.ver : Int), .int .i64 x.idx, .int .u64 (x.ep : Int)] := Blk.new w _ _
  rw [ew0] at hb hx
  obtain ⟨H2, eH⟩ : ∃ H2 : Nat → Prop, (fun k => H k ∨ k = w.heap.size) = H2 := ⟨_, rfl⟩
  have h12 : ∀ k, H k → H2 k := fun k hk => by rw [← eH]; exact .inl hk
  have h2b : H2 w.heap.size := by rw [← eH]; exact .inr rfl
  have HP := Lh (show Sh H2 g xs w0 from (hp.out.mono (fun k hk => by rw [← eH] at hk; exact hk.imp id (fun e => by omega))).later hb)
  have HS := Lh (show Safe H2 g w0 from fun k hk => by rw [← eH] at hk; rcases hk with hk | hk; exact ⟨Nat.lt_of_lt_of_le (hS.out k hk).1 hb.size, (hS.out k hk).2⟩; exact ⟨by rw [hk]; exact hx.lt, by have := hp.out.lt; omega⟩)
  have HK := Lh (Keep.below hb : Keep H w w0)
  have HX := Lh hx
  have H12 := Lh h12
  have H2B := Lh h2b
  clear hb hx eH h12 h2b
  have c0 := HX.out.cell 0
  go_enter Tryz.func85, Tryz.ntmps85
  go_wp2_with fail
  clear ew0
  refine (sh_number H2 g xs x.ver _ HP HS HO.out.1 (by have := HL.out; omega)).mono ?_
  rintro e w1 ⟨rfl, h1, h2⟩
  clear c0
  obtain ⟨y1, hy⟩ : ∃ y, xs ++ putN x.ver = y := ⟨_, rfl⟩
  rw [hy] at h1
  have HL := Lh (show y1.length + 20 ≤ 70000000000000 from by have h3 := HL.out; have h4 := putN_len10 (n := x.ver) HO.out.1; rw [← hy, List.length_append]; omega)
  have HY1 := Lh hy
  have HP := Lh h1
  have HS := Lh (HS.out.keep h2)
  have HX := Lh (h2.blk HX.out H2B.out)
  have HK := Lh (HK.out.trans (h2.mono H12.out))
  clear h1 h2 hy
  have c1 := HX.out.cell 1
  go_wp2_with fail
  refine (sh_int H2 g y1 x.idx _ HP HS HO.out.2.1 (by have := HL.out; omega)).mono ?_
  rintro e w2 ⟨rfl, h1, h2⟩
  clear c1
  obtain ⟨y2, hy⟩ : ∃ y, y1 ++ pInt x.idx = y := ⟨_, rfl⟩
  rw [hy] at h1
  have HL := Lh (show y2.length + 10 ≤ 70000000000000 from by have h3 := HL.out; have h4 := pInt_len (x := x.idx) HO.out.2.1; rw [← hy, List.length_append]; omega)
  have HY2 := Lh hy
  have HP := Lh h1
  have HS := Lh (HS.out.keep h2)
  have HX := Lh (h2.blk HX.out H2B.out)
  have HK := Lh (HK.out.trans (h2.mono H12.out))
  clear h1 h2 hy
  have c2 := HX.out.cell 2
  go_wp2_with fail
  refine (sh_number H2 g y2 x.ep _ HP HS HO.out.2.2 (by have := HL.out; omega)).mono ?_
  rintro e w3 ⟨rfl, h1, h2⟩
  clear c2
  obtain ⟨y3, hy⟩ : ∃ y, y2 ++ putN x.ep = y := ⟨_, rfl⟩
  rw [hy] at h1
  have HL := Lh (show y3.length + 0 ≤ 70000000000000 from by have h3 := HL.out; have h4 := putN_len10 (n := x.ep) HO.out.2.2; rw [← hy, List.length_append]; omega)
  have HY3 := Lh hy
  have HP := Lh h1
  have HS := Lh (HS.out.keep h2)
  have HX := Lh (h2.blk HX.out H2B.out)
  have HK := Lh (HK.out.trans (h2.mono H12.out))
  clear h1 h2 hy
  go_wp2
  go_end0
  have hz : xs ++ pId x = y3 := by
    rw [← HY3.out, ← HY2.out, ← HY1.out]
    unfold pId
    simp only [List.append_assoc]
  rw [hz]
  exact ⟨rfl, HP.out.mono (fun k hk => .inl (H12.out k hk)), HK.out⟩
theorem pHd_len {x : HdT} (HO : HdOk x) : (pHd x).length ≤ 70 := by
  have h0 := pId_len (x := x.id) HO.id_
  have h1 := pInt_len (x := x.k) HO.k
  have h2 := pInt_len (x := x.n) HO.n
  have h3 := pInt_len (x := x.size) HO.size
  have h4 := putN_len10 (n := x.sum) (by have := HO.sum; omega)
  unfold pHd
  simp only [List.length_append]
  omega
set_option maxRecDepth 100000 in
set_option maxHeartbeats 4000000 in
theorem sh_header (H : Nat → Prop) (g : Nat) (xs : List Nat) (x : HdT) (w : World) (hp : Hid (Sh H g xs w)) (hS : Hid (Safe H g w))  (HO : HdOk x) (hl : xs.length + 70 ≤ 70000000000000) :
    Calls Tryz.prog 58 #[.pointer (some ⟨g, 0, none⟩), .agg #[.int .u64 (x.id.ver : Int), .int .i64 x.id.idx, .int .u64 (x.id.ep : Int), .int .i64 x.k, .int .i64 x.n, .int .i64 x.size, .int .u32 (x.sum : Int)]] w (RetW H g (xs ++ pHd x) w) := by
  have HO := Lh HO
  have HL := Lh hl
  obtain ⟨w0, ew0⟩ : ∃ w0, w.alloc (.cells #[.int .u64 (x.id.ver : Int), .int .i64 x.id.idx, .int .u64 (x.id.ep : Int), .int .i64 x.k, .int .i64 x.n, .int .i64 x.size, .int .u32 (x.sum : Int)] 32) = w0 := ⟨_, rfl⟩
  have hb : Below w.heap.size w (w.alloc (.cells #[.int .u64 (x.id.ver : Int), .int .i64 x.id.idx, .int .u64 (x.id.ep : Int), .int .i64 x.k, .int .i64 x.n, .int .i64 x.size, .int .u32 (x.sum : Int)] 32)) := (Below.refl _ _).alloc (Nat.le_refl _) _
  have hx : Blk (w.alloc (.cells #[.int .u64 (x.id.ver : Int), .int .i64 x.id.idx, .int .u64 (x.id.ep : Int), .int .i64 x.k, .int .i64 x.n, .int .i64 x.size, .int .u32 (x.sum : Int)] 32)) w.heap.size 32 #[.int .u64 (x.id.ver : Int), .int .i64 x.id.idx, .int .u64 (x.id.ep : Int), .int .i64 x.k, .int .i64 x.n, .int .i64 x.size, .int .u32 (x.sum : Int)] := Blk.new w _ _
  rw [ew0] at hb hx
  obtain ⟨H2, eH⟩ : ∃ H2 : Nat → Prop, (fun k => H k ∨ k = w.heap.size) = H2 := ⟨_, rfl⟩
  have h12 : ∀ k, H k → H2 k := fun k hk => by rw [← eH]; exact .inl hk
  have h2b : H2 w.heap.size := by rw [← eH]; exact .inr rfl
  have HP := Lh (show Sh H2 g xs w0 from (hp.out.mono (fun k hk => by rw [← eH] at hk; exact hk.imp id (fun e => by omega))).later hb)
  have HS := Lh (show Safe H2 g w0 from fun k hk => by rw [← eH] at hk; rcases hk with hk | hk; exact ⟨Nat.lt_of_lt_of_le (hS.out k hk).1 hb.size, (hS.out k hk).2⟩; exact ⟨by rw [hk]; exact hx.lt, by have := hp.out.lt; omega⟩)
  have HK := Lh (Keep.below hb : Keep H w w0)
  have HX := Lh hx
  have H12 := Lh h12
  have H2B := Lh h2b
  clear hb hx eH h12 h2b
  have c0 := HX.out.cell 0
  have c1 := HX.out.cell 1
  have c2 := HX.out.cell 2
  go_enter Tryz.func58, Tryz.ntmps58
  go_wp2_with fail
  clear ew0
  refine (sh_id H2 g xs x.id _ HP HS HO.out.id_ (by have := HL.out; omega)).mono ?_
  rintro e w1 ⟨rfl, h1, h2⟩
  clear c0
  clear c1
  clear c2
  obtain ⟨y1, hy⟩ : ∃ y, xs ++ pId x.id = y := ⟨_, rfl⟩
  rw [hy] at h1
  have HL := Lh (show y1.length + 40 ≤ 70000000000000 from by have h3 := HL.out; have h4 := pId_len (x := x.id) HO.out.id_; rw [← hy, List.length_append]; omega)
  have HY1 := Lh hy
  have HP := Lh h1
  have HS := Lh (HS.out.keep h2)
  have HX := Lh (h2.blk HX.out H2B.out)
  have HK := Lh (HK.out.trans (h2.mono H12.out))
  clear h1 h2 hy
  have c3 := HX.out.cell 3
  go_wp2_with fail
  refine (sh_int H2 g y1 x.k _ HP HS HO.out.k (by have := HL.out; omega)).mono ?_
  rintro e w2 ⟨rfl, h1, h2⟩
  clear c3
  obtain ⟨y2, hy⟩ : ∃ y, y1 ++ pInt x.k = y := ⟨_, rfl⟩
  rw [hy] at h1
  have HL := Lh (show y2.length + 30 ≤ 70000000000000 from by have h3 := HL.out; have h4 := pInt_len (x := x.k) HO.out.k; rw [← hy, List.length_append]; omega)
  have HY2 := Lh hy
  have HP := Lh h1
  have HS := Lh (HS.out.keep h2)
  have HX := Lh (h2.blk HX.out H2B.out)
  have HK := Lh (HK.out.trans (h2.mono H12.out))
  clear h1 h2 hy
  have c4 := HX.out.cell 4
  go_wp2_with fail
  refine (sh_int H2 g y2 x.n _ HP HS HO.out.n (by have := HL.out; omega)).mono ?_
  rintro e w3 ⟨rfl, h1, h2⟩
  clear c4
  obtain ⟨y3, hy⟩ : ∃ y, y2 ++ pInt x.n = y := ⟨_, rfl⟩
  rw [hy] at h1
  have HL := Lh (show y3.length + 20 ≤ 70000000000000 from by have h3 := HL.out; have h4 := pInt_len (x := x.n) HO.out.n; rw [← hy, List.length_append]; omega)
  have HY3 := Lh hy
  have HP := Lh h1
  have HS := Lh (HS.out.keep h2)
  have HX := Lh (h2.blk HX.out H2B.out)
  have HK := Lh (HK.out.trans (h2.mono H12.out))
  clear h1 h2 hy
  have c5 := HX.out.cell 5
  go_wp2_with fail
  refine (sh_int H2 g y3 x.size _ HP HS HO.out.size (by have := HL.out; omega)).mono ?_
  rintro e w4 ⟨rfl, h1, h2⟩
  clear c5
  obtain ⟨y4, hy⟩ : ∃ y, y3 ++ pInt x.size = y := ⟨_, rfl⟩
  rw [hy] at h1
  have HL := Lh (show y4.length + 10 ≤ 70000000000000 from by have h3 := HL.out; have h4 := pInt_len (x := x.size) HO.out.size; rw [← hy, List.length_append]; omega)
  have HY4 := Lh hy
  have HP := Lh h1
  have HS := Lh (HS.out.keep h2)
  have HX := Lh (h2.blk HX.out H2B.out)
  have HK := Lh (HK.out.trans (h2.mono H12.out))
  clear h1 h2 hy
  have c6 := HX.out.cell 6
  have eu : IntKind.u64.wrap (x.sum : Int) = (x.sum : Int) := by have := HO.out.sum; rw [IntKind.wrap_u64]; omega
  go_wp2_with fail
  refine (sh_number H2 g y4 x.sum _ HP HS (by have := HO.out.sum; omega) (by have := HL.out; omega)).mono ?_
  rintro e w5 ⟨rfl, h1, h2⟩
  clear c6
  clear eu
  obtain ⟨y5, hy⟩ : ∃ y, y4 ++ putN x.sum = y := ⟨_, rfl⟩
  rw [hy] at h1
  have HL := Lh (show y5.length + 0 ≤ 70000000000000 from by have h3 := HL.out; have h4 := putN_len10 (n := x.sum) (by have := HO.out.sum; omega); rw [← hy, List.length_append]; omega)
  have HY5 := Lh hy
  have HP := Lh h1
  have HS := Lh (HS.out.keep h2)
  have HX := Lh (h2.blk HX.out H2B.out)
  have HK := Lh (HK.out.trans (h2.mono H12.out))
  clear h1 h2 hy
  go_wp2
  go_end0
  have hz : xs ++ pHd x = y5 := by
    rw [← HY5.out, ← HY4.out, ← HY3.out, ← HY2.out, ← HY1.out]
    unfold pHd
    simp only [List.append_assoc]
  rw [hz]
  exact ⟨rfl, HP.out.mono (fun k hk => .inl (H12.out k hk)), HK.out⟩
theorem pConf_len {x : List Int × List Int} (HO : IntsOk x.1 ∧ IntsOk x.2) : (pConf x).length ≤ 20971590 := by
  have h0 := pInts_len (x := x.1) HO.1
  have h1 := pInts_len (x := x.2) HO.2
  unfold pConf
  simp only [List.length_append]
  omega
set_option maxRecDepth 100000 in
set_option maxHeartbeats 4000000 in
theorem sh_conf (H : Nat → Prop) (g : Nat) (xs : List Nat) (A : Option Addr) (c : Nat) (B : Option Addr) (d : Nat) (x : List Int × List Int) (w : World) (hp : Hid (Sh H g xs w)) (hS : Hid (Safe H g w)) (hK : Hid (Reads w w.heap.size 1 A x.1.length (x.1.map iv))) (hKH : Hid (0 < x.1.length → ∀ ad, A = some ad → H ad.block)) (hJ : Hid (Reads w w.heap.size 1 B x.2.length (x.2.map iv))) (hJH : Hid (0 < x.2.length → ∀ ad, B = some ad → H ad.block)) (HO : IntsOk x.1 ∧ IntsOk x.2) (hl : xs.length + 20971590 ≤ 70000000000000) :
    Calls Tryz.prog 56 #[.pointer (some ⟨g, 0, none⟩), .agg #[.slice A x.1.length c, .slice B x.2.length d]] w (RetW H g (xs ++ pConf x) w) := by
  have HO := Lh HO
  have HL := Lh hl
  obtain ⟨w0, ew0⟩ : ∃ w0, w.alloc (.cells #[.slice A x.1.length c, .slice B x.2.length d] 27) = w0 := ⟨_, rfl⟩
  have hb : Below w.heap.size w (w.alloc (.cells #[.slice A x.1.length c, .slice B x.2.length d] 27)) := (Below.refl _ _).alloc (Nat.le_refl _) _
  have hx : Blk (w.alloc (.cells #[.slice A x.1.length c, .slice B x.2.length d] 27)) w.heap.size 27 #[.slice A x.1.length c, .slice B x.2.length d] := Blk.new w _ _
  rw [ew0] at hb hx
  obtain ⟨H2, eH⟩ : ∃ H2 : Nat → Prop, (fun k => H k ∨ k = w.heap.size) = H2 := ⟨_, rfl⟩
  have h12 : ∀ k, H k → H2 k := fun k hk => by rw [← eH]; exact .inl hk
  have h2b : H2 w.heap.size := by rw [← eH]; exact .inr rfl
  have HP := Lh (show Sh H2 g xs w0 from (hp.out.mono (fun k hk => by rw [← eH] at hk; exact hk.imp id (fun e => by omega))).later hb)
  have HS := Lh (show Safe H2 g w0 from fun k hk => by rw [← eH] at hk; rcases hk with hk | hk; exact ⟨Nat.lt_of_lt_of_le (hS.out k hk).1 hb.size, (hS.out k hk).2⟩; exact ⟨by rw [hk]; exact hx.lt, by have := hp.out.lt; omega⟩)
  have HK := Lh (Keep.below hb : Keep H w w0)
  have HX := Lh hx
  have K := Lh (hK.out.later hb)
  have J := Lh (hJ.out.later hb)
  have H12 := Lh h12
  have H2B := Lh h2b
  clear hb hx eH h12 h2b
  have c0 := HX.out.cell 0
  go_enter Tryz.func56, Tryz.ntmps56
  go_wp2_with fail
  clear ew0
  refine (sh_ints H2 g xs A x.1.length c x.1 _ HP HS K (Lh (fun h ad e => H12.out _ (hKH.out h ad e))) (Lh rfl) (HO.out.1).2 (Lh (HO.out.1).1) (by have := HL.out; omega)).mono ?_
  rintro e w1 ⟨rfl, h1, h2⟩
  clear c0
  obtain ⟨y1, hy⟩ : ∃ y, xs ++ pList pInt x.1 = y := ⟨_, rfl⟩
  rw [hy] at h1
  have HL := Lh (show y1.length + 10485820 ≤ 70000000000000 from by have h3 := HL.out; have h4 := pInts_len (x := x.1) HO.out.1; rw [← hy, List.length_append]; omega)
  have HY1 := Lh hy
  have HP := Lh h1
  have HS := Lh (HS.out.keep h2)
  have HX := Lh (h2.blk HX.out H2B.out)
  have HK := Lh (HK.out.trans (h2.mono H12.out))
  have K := Lh (h2.reads K.out (fun h ad e => H12.out _ (hKH.out h ad e)))
  have J := Lh (h2.reads J.out (fun h ad e => H12.out _ (hJH.out h ad e)))
  clear h1 h2 hy
  have c1 := HX.out.cell 1
  go_wp2_with fail
  refine (sh_ints H2 g y1 B x.2.length d x.2 _ HP HS J (Lh (fun h ad e => H12.out _ (hJH.out h ad e))) (Lh rfl) (HO.out.2).2 (Lh (HO.out.2).1) (by have := HL.out; omega)).mono ?_
  rintro e w2 ⟨rfl, h1, h2⟩
  clear c1
  obtain ⟨y2, hy⟩ : ∃ y, y1 ++ pList pInt x.2 = y := ⟨_, rfl⟩
  rw [hy] at h1
  have HL := Lh (show y2.length + 50 ≤ 70000000000000 from by have h3 := HL.out; have h4 := pInts_len (x := x.2) HO.out.2; rw [← hy, List.length_append]; omega)
  have HY2 := Lh hy
  have HP := Lh h1
  have HS := Lh (HS.out.keep h2)
  have HX := Lh (h2.blk HX.out H2B.out)
  have HK := Lh (HK.out.trans (h2.mono H12.out))
  have K := Lh (h2.reads K.out (fun h ad e => H12.out _ (hKH.out h ad e)))
  have J := Lh (h2.reads J.out (fun h ad e => H12.out _ (hJH.out h ad e)))
  clear h1 h2 hy
  go_wp2
  go_end0
  have hz : xs ++ pConf x = y2 := by
    rw [← HY2.out, ← HY1.out]
    unfold pConf
    simp only [List.append_assoc]
  rw [hz]
  exact ⟨rfl, HP.out.mono (fun k hk => .inl (H12.out k hk)), HK.out⟩
set_option maxRecDepth 100000 in
set_option maxHeartbeats 2000000 in
theorem sh_member (H : Nat → Prop) (g : Nat) (xs : List Nat) (x : Int × Int) (b : Nat) (w : World) (hp : Hid (Sh H g xs w)) (hS : Hid (Safe H g w)) (HBX : Hid (Blk w b 135 #[.pointer (some ⟨g, 0, none⟩)])) (hHb : Hid (H b)) (HO : MemOk x) (hl : xs.length + 20 ≤ 70000000000000) :
    Calls Tryz.prog 113 #[.agg #[.int .i64 x.1, .int .i64 x.2], .pointer (some ⟨b, 0, none⟩)] w (RetW H g (xs ++ pMem x) w) := by
  have HO := Lh HO
  have HL := Lh hl
  obtain ⟨w0, ew0⟩ : ∃ w0, w.alloc (.cells #[.int .i64 x.1, .int .i64 x.2] 214) = w0 := ⟨_, rfl⟩
  have hb : Below w.heap.size w (w.alloc (.cells #[.int .i64 x.1, .int .i64 x.2] 214)) := (Below.refl _ _).alloc (Nat.le_refl _) _
  have hx : Blk (w.alloc (.cells #[.int .i64 x.1, .int .i64 x.2] 214)) w.heap.size 214 #[.int .i64 x.1, .int .i64 x.2] := Blk.new w _ _
  rw [ew0] at hb hx
  obtain ⟨H2, eH⟩ : ∃ H2 : Nat → Prop, (fun k => H k ∨ k = w.heap.size) = H2 := ⟨_, rfl⟩
  have h12 : ∀ k, H k → H2 k := fun k hk => by rw [← eH]; exact .inl hk
  have h2b : H2 w.heap.size := by rw [← eH]; exact .inr rfl
  have HP := Lh (show Sh H2 g xs w0 from (hp.out.mono (fun k hk => by rw [← eH] at hk; exact hk.imp id (fun e => by omega))).later hb)
  have HS := Lh (show Safe H2 g w0 from fun k hk => by rw [← eH] at hk; rcases hk with hk | hk; exact ⟨Nat.lt_of_lt_of_le (hS.out k hk).1 hb.size, (hS.out k hk).2⟩; exact ⟨by rw [hk]; exact hx.lt, by have := hp.out.lt; omega⟩)
  have HK := Lh (Keep.below hb : Keep H w w0)
  have HX := Lh hx
  have HB := Lh (HBX.out.below hb HBX.out.lt)
  have H12 := Lh h12
  have H2B := Lh h2b
  clear hb hx eH h12 h2b
  have c0 := HX.out.cell 0
  have cb := HB.out.cell 0
  go_enter Tryz.func113, Tryz.ntmps113
  go_wp2_with fail
  clear ew0 c0 cb
  refine (sh_int H2 g xs x.1 _ HP HS HO.out.1 (by omega)).mono ?_
  rintro e w1 ⟨rfl, h1, h2⟩
  have HL2 := Lh (show (xs ++ pInt x.1).length ≤ 70000000000000 from by have h4 := pInt_len (x := x.1) HO.out.1; rw [List.length_append]; omega)
  have HP := Lh h1
  have HS := Lh (HS.out.keep h2)
  have HX := Lh (h2.blk HX.out H2B.out)
  have HB := Lh (h2.blk HB.out (H12.out _ hHb.out))
  have HK := Lh (HK.out.trans (h2.mono H12.out))
  clear h1 h2
  have c1 := HX.out.cell 1
  have cb := HB.out.cell 0
  go_wp2_with fail
  clear c1 cb
  refine (sh_int H2 g _ x.2 _ HP HS HO.out.2 HL2.out).mono ?_
  rintro e w2 ⟨rfl, h1, h2⟩
  have HP := Lh h1
  have HK := Lh (HK.out.trans (h2.mono H12.out))
  clear h1 h2
  go_wp2
  go_end0
  rw [show xs ++ pMem x = xs ++ pInt x.1 ++ pInt x.2 from by unfold pMem; rw [List.append_assoc]]
  exact ⟨rfl, HP.out.mono (fun k hk => .inl (H12.out k hk)), HK.out⟩
set_option maxRecDepth 100000 in
set_option maxHeartbeats 2000000 in
theorem sh_mems (H : Nat → Prop) (g : Nat) (xs : List Nat) (A : Option Addr) (n cap : Nat) (l : List (Int × Int)) (w : World) (b : Nat) (HBX : Hid (Blk w b 135 #[.pointer (some ⟨g, 0, none⟩)])) (hHb : Hid (H b)) (hp : Hid (Sh H g xs w)) (hS : Hid (Safe H g w)) (hL : Hid (Reads w w.heap.size 2 A n (mcells l))) (hH : Hid (0 < n → ∀ ad, A = some ad → H ad.block)) (hn : Hid (l.length = n)) (hn2 : n ≤ 1048576) (hI : Hid (∀ x ∈ l, MemOk x)) (hl : xs.length + 20971530 ≤ 70000000000000) :
    Calls Tryz.prog 112 #[.pointer (some ⟨g, 0, none⟩), .slice A n cap, .func (.func 113) #[] #[.pointer (some ⟨b, 0, none⟩)]] w (RetW H g (xs ++ pList pMem l) w) := by
  have e1 : IntKind.u64.wrap (n : Int) = (n : Int) := by rw [IntKind.wrap_u64]; omega
  have HC := Lh (sh_number H g xs n w hp hS (by omega) (by omega))
  have HN10 := Lh (putN_len10 (n := n) (by omega))
  go_enter Tryz.func112, Tryz.ntmps112
  go_wp2_with fail
  refine HC.out.mono ?_
  rintro e w1 ⟨rfl, h1, h2⟩
  have HP1 := Lh h1
  have HK1 := Lh h2
  clear h1 h2 HC e1
  go_wp2
  go_loopw [7, 15] (fun vx vi wr => ∃ (k : Nat) (ys : List Nat), k ≤ n ∧ vi = .int .i64 k ∧ Hid (ys = xs ++ (putN n ++ (l.take k).flatMap pMem)) ∧ Hid (Sh H g ys wr) ∧ Hid (Keep H w wr)) (fun _ vi _ => n - (intOf vi).toNat)
  case atStart => exact ⟨0, xs ++ putN n, by omega, rfl, Lh (by simp), HP1, HK1⟩
  case round =>
    obtain ⟨k, ys, hk, rfl, hy, hs, hkp⟩ := hrel
    by_cases hlt : k < n
    · have d1 : decide (k < n) = true := decide_eq_true hlt
      have hkl : k < l.length := by have := hn.out; omega
      have hyl : ys.length ≤ xs.length + 10 + 20 * k := by
        have h1 := flat_len pMem 20 (l.take k) (fun x hx => pMem_len (hI.out x (List.mem_of_mem_take hx)))
        rw [List.length_take] at h1
        have h3 := HN10.out
        rw [hy.out, List.length_append, List.length_append]
        have : 20 * min k l.length ≤ 20 * k := Nat.mul_le_mul_left _ (Nat.min_le_left _ _)
        omega
      have hyb : ys.length + 20 ≤ 70000000000000 := by omega
      clear hyl
      have HY2 := Lh (show ys ++ pMem (l.getD k (0, 0)) = xs ++ (putN n ++ (l.take (k + 1)).flatMap pMem) from by rw [hy.out, flat_take pMem l (0, 0) k hkl]; simp only [List.append_assoc])
      have hx := getD_in hI.out hkl (0, 0)
      have hr := hkp.out.reads hL.out hH.out
      obtain ⟨ad, hA, hbl, hc⟩ := hr.2 (by omega : 0 < n)
      subst hA
      obtain ⟨hc1, hc2⟩ := mcells_get1 (l := l) (k := k) hkl
      have hc3 := hc _ _ hc1
      have hc4 := hc _ _ hc2
      have hc4 : wr.cell? { block := (ad.add (k * 2)).block, off := (ad.add (k * 2)).off + 1 } = some (iv (l.getD k (0, 0)).2) := by rw [← addr_next]; exact hc4
      obtain ⟨y, hy'⟩ : ∃ y, l.getD k (0, 0) = y := ⟨_, rfl⟩
      rw [hy'] at hc3 hc4 hx HY2
      obtain ⟨y1, y2⟩ := y
      unfold iv at hc3 hc4
      simp only at hc3 hc4
      have HX := Lh hx
      have hbB := hkp.out.blk HBX.out hHb.out
      have hbw : Below wr.heap.size wr (wr.alloc (.cells #[.int .i64 0, .int .i64 0] 214)) := (Below.refl _ _).alloc (Nat.le_refl _) _
      obtain ⟨w4, ew4⟩ : ∃ w4, wr.alloc (.cells #[.int .i64 0, .int .i64 0] 214) = w4 := ⟨_, rfl⟩
      have hX4 : Blk (wr.alloc (.cells #[.int .i64 0, .int .i64 0] 214)) wr.heap.size 214 #[.int .i64 0, .int .i64 0] := Blk.new wr _ _
      rw [ew4] at hX4 hbw
      obtain ⟨x, hxe⟩ : ∃ x, wr.heap.size = x := ⟨_, rfl⟩
      rw [hxe] at hX4
      have q0 := hX4.cell 0
      have q1 := hX4.cell 1
      have q2 := hX4.frozen 0
      have q3 := hX4.frozen 1
      obtain ⟨w5, ew5⟩ : ∃ w5, (w4.setCell ⟨x, 0, none⟩ (.int .i64 y1)).setCell ⟨x, 1, none⟩ (.int .i64 y2) = w5 := ⟨_, rfl⟩
      have hO := (Only.set_ w4 x 0 (.int .i64 y1)).trans (Only.set_ (w4.setCell ⟨x, 0, none⟩ (.int .i64 y1)) x 1 (.int .i64 y2))
      have hX5 : Blk ((w4.setCell ⟨x, 0, none⟩ (.int .i64 y1)).setCell ⟨x, 1, none⟩ (.int .i64 y2)) x 214 #[.int .i64 y1, .int .i64 y2] := by have := (hX4.set_ 0 (.int .i64 y1)).set_ 1 (.int .i64 y2); simpa using this
      rw [ew5] at hO hX5
      have hbw5 : Below wr.heap.size wr w5 := hbw.trans (hO.below (by omega))
      have HB5 := Lh (hbB.below hbw5 hbB.lt)
      have HS5 := Lh (hs.out.later hbw5)
      have HF5 := Lh ((hS.out.keep hkp.out).keep (Keep.below hbw5))
      have HKA0 := Lh (hkp.out.trans (Keep.below hbw5))
      have u0 := hX5.cell 0
      have u1 := hX5.cell 1
      have hc3 := (hbw.cell (p := ad.add (k * 2)) (by rw [block_of_add]; exact hbl)).trans hc3
      have hc4 := (hbw.cell (p := { block := (ad.add (k * 2)).block, off := (ad.add (k * 2)).off + 1 }) (by show (ad.add (k * 2)).block < _; rw [block_of_add]; exact hbl)).trans hc4
      clear hy' hc hr hx hc1 hc2 hbB hbw hX4 hO hX5 hbw5
      go_wp2_with (first
        | (go_at_call 113; refine (sh_member H g ys (y1, y2) b w5 HS5 HF5 HB5 hHb HX.out (by omega)).mono ?_; rintro e w6 ⟨rfl, h3⟩; have HR := Lh h3; have HKA := Lh HKA0.out; clear h3))
      exact ⟨⟨k + 1, _, by omega, by go_num, HY2, Lh HR.out.1, Lh (HKA.out.trans HR.out.2)⟩, by simp [intOf]; omega⟩
    · obtain rfl : k = n := by omega
      go_wp2
      go_end0
      refine ⟨rfl, ?_, hkp.out⟩
      unfold pList
      have h := hy.out
      rw [List.take_of_length_le (by rw [hn.out]; exact Nat.le_refl _)] at h
      rw [hn.out, ← h]
      exact hs.out
theorem pMap_len {x : Nat × List (Int × Int)} (HO : MapOk x) : (pMap x).length ≤ 20971550 := by
  have h0 := putN_len10 (n := x.1) HO.1
  have h1 := pMems_len (x := x.2) HO.2
  unfold pMap
  simp only [List.length_append]
  omega
set_option maxRecDepth 100000 in
set_option maxHeartbeats 4000000 in
theorem sh_map (H : Nat → Prop) (g : Nat) (xs : List Nat) (A : Option Addr) (c : Nat) (x : Nat × List (Int × Int)) (w : World) (hp : Hid (Sh H g xs w)) (hS : Hid (Safe H g w)) (hK : Hid (Reads w w.heap.size 2 A x.2.length (mcells x.2))) (hKH : Hid (0 < x.2.length → ∀ ad, A = some ad → H ad.block)) (HO : MapOk x) (hl : xs.length + 20971550 ≤ 70000000000000) :
    Calls Tryz.prog 107 #[.pointer (some ⟨g, 0, none⟩), .agg #[.int .u64 (x.1 : Int), .slice A x.2.length c]] w (RetW H g (xs ++ pMap x) w) := by
  have HO := Lh HO
  have HL := Lh hl
  obtain ⟨w0, ew0⟩ : ∃ w0, ((w.alloc (.cells #[.pointer (some ⟨g, 0, none⟩)] 135)).alloc (.cells #[.int .u64 (x.1 : Int), .slice A x.2.length c] 82)) = w0 := ⟨_, rfl⟩
  have hb : Below w.heap.size w ((w.alloc (.cells #[.pointer (some ⟨g, 0, none⟩)] 135)).alloc (.cells #[.int .u64 (x.1 : Int), .slice A x.2.length c] 82)) := ((Below.refl _ _).alloc (Nat.le_refl _) _).alloc (by simp) _
  have hx : Blk ((w.alloc (.cells #[.pointer (some ⟨g, 0, none⟩)] 135)).alloc (.cells #[.int .u64 (x.1 : Int), .slice A x.2.length c] 82)) (w.heap.size + 1) 82 #[.int .u64 (x.1 : Int), .slice A x.2.length c] := by have := Blk.new (w.alloc (.cells #[.pointer (some ⟨g, 0, none⟩)] 135)) 82 #[.int .u64 (x.1 : Int), .slice A x.2.length c]; simpa using this
  have hbb := (Blk.new w 135 #[.pointer (some ⟨g, 0, none⟩)]).alloc (.cells #[.int .u64 (x.1 : Int), .slice A x.2.length c] 82)
  rw [ew0] at hb hx hbb
  obtain ⟨H2, eH⟩ : ∃ H2 : Nat → Prop, (fun k => H k ∨ (k = w.heap.size ∨ k = w.heap.size + 1)) = H2 := ⟨_, rfl⟩
  have h12 : ∀ k, H k → H2 k := fun k hk => by rw [← eH]; exact .inl hk
  have h2b : H2 w.heap.size := by rw [← eH]; exact .inr (.inl rfl)
  have h2c : H2 (w.heap.size + 1) := by rw [← eH]; exact .inr (.inr rfl)
  have HP := Lh (show Sh H2 g xs w0 from (hp.out.mono (fun k hk => by rw [← eH] at hk; exact hk.imp id (fun e => by omega))).later hb)
  have HS := Lh (show Safe H2 g w0 from fun k hk => by rw [← eH] at hk; rcases hk with hk | hk | hk; exact ⟨Nat.lt_of_lt_of_le (hS.out k hk).1 hb.size, (hS.out k hk).2⟩; exact ⟨by rw [hk]; exact hbb.lt, by have := hp.out.lt; omega⟩; exact ⟨by rw [hk]; exact hx.lt, by have := hp.out.lt; omega⟩)
  have HK := Lh (Keep.below hb : Keep H w w0)
  have HX := Lh hx
  have HB := Lh hbb
  have K := Lh (hK.out.later hb)
  have H12 := Lh h12
  have H2B := Lh h2b
  have H2C := Lh h2c
  clear hb hx hbb eH h12 h2b h2c
  have c0 := HX.out.cell 0
  have cb := HB.out.cell 0
  go_enter Tryz.func107, Tryz.ntmps107
  go_wp2_with fail
  clear ew0 c0 cb
  refine (sh_number H2 g xs x.1 _ HP HS HO.out.1 (by omega)).mono ?_
  rintro e w1 ⟨rfl, h1, h2⟩
  have HL2 := Lh (show (xs ++ putN x.1).length + 20971530 ≤ 70000000000000 from by have h4 := putN_len10 (n := x.1) HO.out.1; rw [List.length_append]; omega)
  have HP := Lh h1
  have HS := Lh (HS.out.keep h2)
  have HX := Lh (h2.blk HX.out H2C.out)
  have HB := Lh (h2.blk HB.out H2B.out)
  have HK := Lh (HK.out.trans (h2.mono H12.out))
  have K := Lh (h2.reads K.out (fun h ad e => H12.out _ (hKH.out h ad e)))
  clear h1 h2
  have c1 := HX.out.cell 1
  have cb := HB.out.cell 0
  go_wp2_with fail
  clear c1 cb
  refine (sh_mems H2 g _ A x.2.length c x.2 _ w.heap.size HB H2B HP HS K (Lh (fun h ad e => H12.out _ (hKH.out h ad e))) (Lh rfl) HO.out.2.2 (Lh HO.out.2.1) HL2.out).mono ?_
  rintro e w2 ⟨rfl, h1, h2⟩
  have HP := Lh h1
  have HK := Lh (HK.out.trans (h2.mono H12.out))
  clear h1 h2
  go_wp2
  go_end0
  rw [show xs ++ pMap x = xs ++ putN x.1 ++ pList pMem x.2 from by unfold pMap; rw [List.append_assoc]]
  exact ⟨rfl, HP.out.mono (fun k hk => .inl (H12.out k hk)), HK.out⟩
theorem pCmd_len {x : CmdT} (HO : CmdOk x) : (pCmd x).length ≤ 22020400 := by
  have h0 := pInt_len (x := x.kind) HO.kind
  have h1 := putN_len10 (n := x.client) HO.client
  have h2 := putN_len10 (n := x.seq) HO.seq
  have h3 := pText_len (x := x.key) HO.key
  have h4 := pInt_len (x := x.size) HO.size
  have h5 := putN_len10 (n := x.sum) (by have := HO.sum; omega)
  have h6 := putN_len10 (n := x.version) HO.version
  have h7 := putN_len10 (n := x.epoch) HO.epoch
  have h8 := pInt_len (x := x.group) HO.group
  have h9 := pInt_len (x := x.node) HO.node
  have h10 := pFlag_len x.up
  have h11 := pId_len (x := x.id) HO.id_
  have h12 := pMap_len (x := (x.mep, x.mem)) HO.map_
  unfold pCmd
  simp only [List.length_append]
  omega
set_option maxRecDepth 100000 in
set_option maxHeartbeats 4000000 in
theorem sh_cmd (H : Nat → Prop) (g : Nat) (xs : List Nat) (A : Option Addr) (c : Nat) (x : CmdT) (w : World) (hp : Hid (Sh H g xs w)) (hS : Hid (Safe H g w)) (hK : Hid (Reads w w.heap.size 2 A x.mem.length (mcells x.mem))) (hKH : Hid (0 < x.mem.length → ∀ ad, A = some ad → H ad.block)) (HO : CmdOk x) (hl : xs.length + 22020400 ≤ 70000000000000) :
    Calls Tryz.prog 83 #[.pointer (some ⟨g, 0, none⟩), .agg #[.int .i64 x.kind, .int .u64 (x.client : Int), .int .u64 (x.seq : Int), .string (strOf x.key), .int .i64 x.size, .int .u32 (x.sum : Int), .int .u64 (x.version : Int), .int .u64 (x.epoch : Int), .int .i64 x.group, .int .i64 x.node, .bool x.up, .int .u64 (x.id.ver : Int), .int .i64 x.id.idx, .int .u64 (x.id.ep : Int), .int .u64 (x.mep : Int), .slice A x.mem.length c]] w (RetW H g (xs ++ pCmd x) w) := by
  have HO := Lh HO
  have HL := Lh hl
  obtain ⟨w0, ew0⟩ : ∃ w0, w.alloc (.cells #[.int .i64 x.kind, .int .u64 (x.client : Int), .int .u64 (x.seq : Int), .string (strOf x.key), .int .i64 x.size, .int .u32 (x.sum : Int), .int .u64 (x.version : Int), .int .u64 (x.epoch : Int), .int .i64 x.group, .int .i64 x.node, .bool x.up, .int .u64 (x.id.ver : Int), .int .i64 x.id.idx, .int .u64 (x.id.ep : Int), .int .u64 (x.mep : Int), .slice A x.mem.length c] 84) = w0 := ⟨_, rfl⟩
  have hb : Below w.heap.size w (w.alloc (.cells #[.int .i64 x.kind, .int .u64 (x.client : Int), .int .u64 (x.seq : Int), .string (strOf x.key), .int .i64 x.size, .int .u32 (x.sum : Int), .int .u64 (x.version : Int), .int .u64 (x.epoch : Int), .int .i64 x.group, .int .i64 x.node, .bool x.up, .int .u64 (x.id.ver : Int), .int .i64 x.id.idx, .int .u64 (x.id.ep : Int), .int .u64 (x.mep : Int), .slice A x.mem.length c] 84)) := (Below.refl _ _).alloc (Nat.le_refl _) _
  have hx : Blk (w.alloc (.cells #[.int .i64 x.kind, .int .u64 (x.client : Int), .int .u64 (x.seq : Int), .string (strOf x.key), .int .i64 x.size, .int .u32 (x.sum : Int), .int .u64 (x.version : Int), .int .u64 (x.epoch : Int), .int .i64 x.group, .int .i64 x.node, .bool x.up, .int .u64 (x.id.ver : Int), .int .i64 x.id.idx, .int .u64 (x.id.ep : Int), .int .u64 (x.mep : Int), .slice A x.mem.length c] 84)) w.heap.size 84 #[.int .i64 x.kind, .int .u64 (x.client : Int), .int .u64 (x.seq : Int), .string (strOf x.key), .int .i64 x.size, .int .u32 (x.sum : Int), .int .u64 (x.version : Int), .int .u64 (x.epoch : Int), .int .i64 x.group, .int .i64 x.node, .bool x.up, .int .u64 (x.id.ver : Int), .int .i64 x.id.idx, .int .u64 (x.id.ep : Int), .int .u64 (x.mep : Int), .slice A x.mem.length c] := Blk.new w _ _
  rw [ew0] at hb hx
  obtain ⟨H2, eH⟩ : ∃ H2 : Nat → Prop, (fun k => H k ∨ k = w.heap.size) = H2 := ⟨_, rfl⟩
  have h12 : ∀ k, H k → H2 k := fun k hk => by rw [← eH]; exact .inl hk
  have h2b : H2 w.heap.size := by rw [← eH]; exact .inr rfl
  have HP := Lh (show Sh H2 g xs w0 from (hp.out.mono (fun k hk => by rw [← eH] at hk; exact hk.imp id (fun e => by omega))).later hb)
  have HS := Lh (show Safe H2 g w0 from fun k hk => by rw [← eH] at hk; rcases hk with hk | hk; exact ⟨Nat.lt_of_lt_of_le (hS.out k hk).1 hb.size, (hS.out k hk).2⟩; exact ⟨by rw [hk]; exact hx.lt, by have := hp.out.lt; omega⟩)
  have HK := Lh (Keep.below hb : Keep H w w0)
  have HX := Lh hx
  have K := Lh (hK.out.later hb)
  have H12 := Lh h12
  have H2B := Lh h2b
  clear hb hx eH h12 h2b
  have c0 := HX.out.cell 0
  go_enter Tryz.func83, Tryz.ntmps83
  go_wp2_with fail
  clear ew0
  refine (sh_int H2 g xs x.kind _ HP HS HO.out.kind (by have := HL.out; omega)).mono ?_
  rintro e w1 ⟨rfl, h1, h2⟩
  clear c0
  obtain ⟨y1, hy⟩ : ∃ y, xs ++ pInt x.kind = y := ⟨_, rfl⟩
  rw [hy] at h1
  have HL := Lh (show y1.length + 22020390 ≤ 70000000000000 from by have h3 := HL.out; have h4 := pInt_len (x := x.kind) HO.out.kind; rw [← hy, List.length_append]; omega)
  have HY1 := Lh hy
  have HP := Lh h1
  have HS := Lh (HS.out.keep h2)
  have HX := Lh (h2.blk HX.out H2B.out)
  have HK := Lh (HK.out.trans (h2.mono H12.out))
  have K := Lh (h2.reads K.out (fun h ad e => H12.out _ (hKH.out h ad e)))
  clear h1 h2 hy
  have c1 := HX.out.cell 1
  go_wp2_with fail
  refine (sh_number H2 g y1 x.client _ HP HS HO.out.client (by have := HL.out; omega)).mono ?_
  rintro e w2 ⟨rfl, h1, h2⟩
  clear c1
  obtain ⟨y2, hy⟩ : ∃ y, y1 ++ putN x.client = y := ⟨_, rfl⟩
  rw [hy] at h1
  have HL := Lh (show y2.length + 22020380 ≤ 70000000000000 from by have h3 := HL.out; have h4 := putN_len10 (n := x.client) HO.out.client; rw [← hy, List.length_append]; omega)
  have HY2 := Lh hy
  have HP := Lh h1
  have HS := Lh (HS.out.keep h2)
  have HX := Lh (h2.blk HX.out H2B.out)
  have HK := Lh (HK.out.trans (h2.mono H12.out))
  have K := Lh (h2.reads K.out (fun h ad e => H12.out _ (hKH.out h ad e)))
  clear h1 h2 hy
  have c2 := HX.out.cell 2
  go_wp2_with fail
  refine (sh_number H2 g y2 x.seq _ HP HS HO.out.seq (by have := HL.out; omega)).mono ?_
  rintro e w3 ⟨rfl, h1, h2⟩
  clear c2
  obtain ⟨y3, hy⟩ : ∃ y, y2 ++ putN x.seq = y := ⟨_, rfl⟩
  rw [hy] at h1
  have HL := Lh (show y3.length + 22020370 ≤ 70000000000000 from by have h3 := HL.out; have h4 := putN_len10 (n := x.seq) HO.out.seq; rw [← hy, List.length_append]; omega)
  have HY3 := Lh hy
  have HP := Lh h1
  have HS := Lh (HS.out.keep h2)
  have HX := Lh (h2.blk HX.out H2B.out)
  have HK := Lh (HK.out.trans (h2.mono H12.out))
  have K := Lh (h2.reads K.out (fun h ad e => H12.out _ (hKH.out h ad e)))
  clear h1 h2 hy
  have c3 := HX.out.cell 3
  go_wp2_with fail
  refine (sh_text H2 g y3 x.key _ HP HS HO.out.key (by have := HL.out; omega)).mono ?_
  rintro e w4 ⟨rfl, h1, h2⟩
  clear c3
  obtain ⟨y4, hy⟩ : ∃ y, y3 ++ pText x.key = y := ⟨_, rfl⟩
  rw [hy] at h1
  have HL := Lh (show y4.length + 20971784 ≤ 70000000000000 from by have h3 := HL.out; have h4 := pText_len (x := x.key) HO.out.key; rw [← hy, List.length_append]; omega)
  have HY4 := Lh hy
  have HP := Lh h1
  have HS := Lh (HS.out.keep h2)
  have HX := Lh (h2.blk HX.out H2B.out)
  have HK := Lh (HK.out.trans (h2.mono H12.out))
  have K := Lh (h2.reads K.out (fun h ad e => H12.out _ (hKH.out h ad e)))
  clear h1 h2 hy
  have c4 := HX.out.cell 4
  go_wp2_with fail
  refine (sh_int H2 g y4 x.size _ HP HS HO.out.size (by have := HL.out; omega)).mono ?_
  rintro e w5 ⟨rfl, h1, h2⟩
  clear c4
  obtain ⟨y5, hy⟩ : ∃ y, y4 ++ pInt x.size = y := ⟨_, rfl⟩
  rw [hy] at h1
  have HL := Lh (show y5.length + 20971774 ≤ 70000000000000 from by have h3 := HL.out; have h4 := pInt_len (x := x.size) HO.out.size; rw [← hy, List.length_append]; omega)
  have HY5 := Lh hy
  have HP := Lh h1
  have HS := Lh (HS.out.keep h2)
  have HX := Lh (h2.blk HX.out H2B.out)
  have HK := Lh (HK.out.trans (h2.mono H12.out))
  have K := Lh (h2.reads K.out (fun h ad e => H12.out _ (hKH.out h ad e)))
  clear h1 h2 hy
  have c5 := HX.out.cell 5
  have eu : IntKind.u64.wrap (x.sum : Int) = (x.sum : Int) := by have := HO.out.sum; rw [IntKind.wrap_u64]; omega
  go_wp2_with fail
  refine (sh_number H2 g y5 x.sum _ HP HS (by have := HO.out.sum; omega) (by have := HL.out; omega)).mono ?_
  rintro e w6 ⟨rfl, h1, h2⟩
  clear c5
  clear eu
  obtain ⟨y6, hy⟩ : ∃ y, y5 ++ putN x.sum = y := ⟨_, rfl⟩
  rw [hy] at h1
  have HL := Lh (show y6.length + 20971764 ≤ 70000000000000 from by have h3 := HL.out; have h4 := putN_len10 (n := x.sum) (by have := HO.out.sum; omega); rw [← hy, List.length_append]; omega)
  have HY6 := Lh hy
  have HP := Lh h1
  have HS := Lh (HS.out.keep h2)
  have HX := Lh (h2.blk HX.out H2B.out)
  have HK := Lh (HK.out.trans (h2.mono H12.out))
  have K := Lh (h2.reads K.out (fun h ad e => H12.out _ (hKH.out h ad e)))
  clear h1 h2 hy
  have c6 := HX.out.cell 6
  go_wp2_with fail
  refine (sh_number H2 g y6 x.version _ HP HS HO.out.version (by have := HL.out; omega)).mono ?_
  rintro e w7 ⟨rfl, h1, h2⟩
  clear c6
  obtain ⟨y7, hy⟩ : ∃ y, y6 ++ putN x.version = y := ⟨_, rfl⟩
  rw [hy] at h1
  have HL := Lh (show y7.length + 20971754 ≤ 70000000000000 from by have h3 := HL.out; have h4 := putN_len10 (n := x.version) HO.out.version; rw [← hy, List.length_append]; omega)
  have HY7 := Lh hy
  have HP := Lh h1
  have HS := Lh (HS.out.keep h2)
  have HX := Lh (h2.blk HX.out H2B.out)
  have HK := Lh (HK.out.trans (h2.mono H12.out))
  have K := Lh (h2.reads K.out (fun h ad e => H12.out _ (hKH.out h ad e)))
  clear h1 h2 hy
  have c7 := HX.out.cell 7
  go_wp2_with fail
  refine (sh_number H2 g y7 x.epoch _ HP HS HO.out.epoch (by have := HL.out; omega)).mono ?_
  rintro e w8 ⟨rfl, h1, h2⟩
  clear c7
  obtain ⟨y8, hy⟩ : ∃ y, y7 ++ putN x.epoch = y := ⟨_, rfl⟩
  rw [hy] at h1
  have HL := Lh (show y8.length + 20971744 ≤ 70000000000000 from by have h3 := HL.out; have h4 := putN_len10 (n := x.epoch) HO.out.epoch; rw [← hy, List.length_append]; omega)
  have HY8 := Lh hy
  have HP := Lh h1
  have HS := Lh (HS.out.keep h2)
  have HX := Lh (h2.blk HX.out H2B.out)
  have HK := Lh (HK.out.trans (h2.mono H12.out))
  have K := Lh (h2.reads K.out (fun h ad e => H12.out _ (hKH.out h ad e)))
  clear h1 h2 hy
  have c8 := HX.out.cell 8
  go_wp2_with fail
  refine (sh_int H2 g y8 x.group _ HP HS HO.out.group (by have := HL.out; omega)).mono ?_
  rintro e w9 ⟨rfl, h1, h2⟩
  clear c8
  obtain ⟨y9, hy⟩ : ∃ y, y8 ++ pInt x.group = y := ⟨_, rfl⟩
  rw [hy] at h1
  have HL := Lh (show y9.length + 20971734 ≤ 70000000000000 from by have h3 := HL.out; have h4 := pInt_len (x := x.group) HO.out.group; rw [← hy, List.length_append]; omega)
  have HY9 := Lh hy
  have HP := Lh h1
  have HS := Lh (HS.out.keep h2)
  have HX := Lh (h2.blk HX.out H2B.out)
  have HK := Lh (HK.out.trans (h2.mono H12.out))
  have K := Lh (h2.reads K.out (fun h ad e => H12.out _ (hKH.out h ad e)))
  clear h1 h2 hy
  have c9 := HX.out.cell 9
  go_wp2_with fail
  refine (sh_int H2 g y9 x.node _ HP HS HO.out.node (by have := HL.out; omega)).mono ?_
  rintro e w10 ⟨rfl, h1, h2⟩
  clear c9
  obtain ⟨y10, hy⟩ : ∃ y, y9 ++ pInt x.node = y := ⟨_, rfl⟩
  rw [hy] at h1
  have HL := Lh (show y10.length + 20971724 ≤ 70000000000000 from by have h3 := HL.out; have h4 := pInt_len (x := x.node) HO.out.node; rw [← hy, List.length_append]; omega)
  have HY10 := Lh hy
  have HP := Lh h1
  have HS := Lh (HS.out.keep h2)
  have HX := Lh (h2.blk HX.out H2B.out)
  have HK := Lh (HK.out.trans (h2.mono H12.out))
  have K := Lh (h2.reads K.out (fun h ad e => H12.out _ (hKH.out h ad e)))
  clear h1 h2 hy
  have c10 := HX.out.cell 10
  go_wp2_with fail
  refine (sh_flag H2 g y10 x.up _ HP HS (by have := HL.out; omega)).mono ?_
  rintro e w11 ⟨rfl, h1, h2⟩
  clear c10
  obtain ⟨y11, hy⟩ : ∃ y, y10 ++ pFlag x.up = y := ⟨_, rfl⟩
  rw [hy] at h1
  have HL := Lh (show y11.length + 20971714 ≤ 70000000000000 from by have h3 := HL.out; have h4 := pFlag_len x.up; rw [← hy, List.length_append]; omega)
  have HY11 := Lh hy
  have HP := Lh h1
  have HS := Lh (HS.out.keep h2)
  have HX := Lh (h2.blk HX.out H2B.out)
  have HK := Lh (HK.out.trans (h2.mono H12.out))
  have K := Lh (h2.reads K.out (fun h ad e => H12.out _ (hKH.out h ad e)))
  clear h1 h2 hy
  have c11 := HX.out.cell 11
  have c12 := HX.out.cell 12
  have c13 := HX.out.cell 13
  go_wp2_with fail
  refine (sh_id H2 g y11 x.id _ HP HS HO.out.id_ (by have := HL.out; omega)).mono ?_
  rintro e w12 ⟨rfl, h1, h2⟩
  clear c11
  clear c12
  clear c13
  obtain ⟨y12, hy⟩ : ∃ y, y11 ++ pId x.id = y := ⟨_, rfl⟩
  rw [hy] at h1
  have HL := Lh (show y12.length + 20971684 ≤ 70000000000000 from by have h3 := HL.out; have h4 := pId_len (x := x.id) HO.out.id_; rw [← hy, List.length_append]; omega)
  have HY12 := Lh hy
  have HP := Lh h1
  have HS := Lh (HS.out.keep h2)
  have HX := Lh (h2.blk HX.out H2B.out)
  have HK := Lh (HK.out.trans (h2.mono H12.out))
  have K := Lh (h2.reads K.out (fun h ad e => H12.out _ (hKH.out h ad e)))
  clear h1 h2 hy
  have c14 := HX.out.cell 14
  have c15 := HX.out.cell 15
  go_wp2_with fail
  refine (sh_map H2 g y12 A c (x.mep, x.mem) _ HP HS K (Lh (fun h ad e => H12.out _ (hKH.out h ad e))) HO.out.map_ (by have := HL.out; omega)).mono ?_
  rintro e w13 ⟨rfl, h1, h2⟩
  clear c14
  clear c15
  obtain ⟨y13, hy⟩ : ∃ y, y12 ++ pMap (x.mep, x.mem) = y := ⟨_, rfl⟩
  rw [hy] at h1
  have HL := Lh (show y13.length + 134 ≤ 70000000000000 from by have h3 := HL.out; have h4 := pMap_len (x := (x.mep, x.mem)) HO.out.map_; rw [← hy, List.length_append]; omega)
  have HY13 := Lh hy
  have HP := Lh h1
  have HS := Lh (HS.out.keep h2)
  have HX := Lh (h2.blk HX.out H2B.out)
  have HK := Lh (HK.out.trans (h2.mono H12.out))
  have K := Lh (h2.reads K.out (fun h ad e => H12.out _ (hKH.out h ad e)))
  clear h1 h2 hy
  go_wp2
  go_end0
  have hz : xs ++ pCmd x = y13 := by
    rw [← HY13.out, ← HY12.out, ← HY11.out, ← HY10.out, ← HY9.out, ← HY8.out, ← HY7.out, ← HY6.out, ← HY5.out, ← HY4.out, ← HY3.out, ← HY2.out, ← HY1.out]
    unfold pCmd
    simp only [List.append_assoc]
  rw [hz]
  exact ⟨rfl, HP.out.mono (fun k hk => .inl (H12.out k hk)), HK.out⟩
theorem pEnt_len {x : EntT} (HO : EntOk x) : (pEnt x).length ≤ 42992040 := by
  have h0 := putN_len10 (n := x.index) HO.index
  have h1 := putN_len10 (n := x.term) HO.term
  have h2 := pInt_len (x := x.kind) HO.kind
  have h3 := pCmd_len (x := x.cmd) HO.cmd
  have h4 := pConf_len (x := (x.voters, x.learners)) ⟨HO.vot, HO.lea⟩
  unfold pEnt
  simp only [List.length_append]
  omega
set_option maxRecDepth 100000 in
set_option maxHeartbeats 4000000 in
theorem sh_entry (H : Nat → Prop) (g : Nat) (xs : List Nat) (A : Option Addr) (c : Nat) (B : Option Addr) (d : Nat) (E : Option Addr) (f : Nat) (x : EntT) (w : World) (hp : Hid (Sh H g xs w)) (hS : Hid (Safe H g w)) (hK : Hid (Reads w w.heap.size 2 A x.cmd.mem.length (mcells x.cmd.mem))) (hKH : Hid (0 < x.cmd.mem.length → ∀ ad, A = some ad → H ad.block)) (hJ : Hid (Reads w w.heap.size 1 B x.voters.length (x.voters.map iv))) (hJH : Hid (0 < x.voters.length → ∀ ad, B = some ad → H ad.block)) (hI : Hid (Reads w w.heap.size 1 E x.learners.length (x.learners.map iv))) (hIH : Hid (0 < x.learners.length → ∀ ad, E = some ad → H ad.block)) (HO : EntOk x) (hl : xs.length + 42992040 ≤ 70000000000000) :
    Calls Tryz.prog 54 #[.pointer (some ⟨g, 0, none⟩), .agg #[.int .u64 (x.index : Int), .int .u64 (x.term : Int), .int .i64 x.kind, .int .i64 x.cmd.kind, .int .u64 (x.cmd.client : Int), .int .u64 (x.cmd.seq : Int), .string (strOf x.cmd.key), .int .i64 x.cmd.size, .int .u32 (x.cmd.sum : Int), .int .u64 (x.cmd.version : Int), .int .u64 (x.cmd.epoch : Int), .int .i64 x.cmd.group, .int .i64 x.cmd.node, .bool x.cmd.up, .int .u64 (x.cmd.id.ver : Int), .int .i64 x.cmd.id.idx, .int .u64 (x.cmd.id.ep : Int), .int .u64 (x.cmd.mep : Int), .slice A x.cmd.mem.length c, .slice B x.voters.length d, .slice E x.learners.length f]] w (RetW H g (xs ++ pEnt x) w) := by
  have HO := Lh HO
  have HL := Lh hl
  obtain ⟨w0, ew0⟩ : ∃ w0, w.alloc (.cells #[.int .u64 (x.index : Int), .int .u64 (x.term : Int), .int .i64 x.kind, .int .i64 x.cmd.kind, .int .u64 (x.cmd.client : Int), .int .u64 (x.cmd.seq : Int), .string (strOf x.cmd.key), .int .i64 x.cmd.size, .int .u32 (x.cmd.sum : Int), .int .u64 (x.cmd.version : Int), .int .u64 (x.cmd.epoch : Int), .int .i64 x.cmd.group, .int .i64 x.cmd.node, .bool x.cmd.up, .int .u64 (x.cmd.id.ver : Int), .int .i64 x.cmd.id.idx, .int .u64 (x.cmd.id.ep : Int), .int .u64 (x.cmd.mep : Int), .slice A x.cmd.mem.length c, .slice B x.voters.length d, .slice E x.learners.length f] 86) = w0 := ⟨_, rfl⟩
  have hb : Below w.heap.size w (w.alloc (.cells #[.int .u64 (x.index : Int), .int .u64 (x.term : Int), .int .i64 x.kind, .int .i64 x.cmd.kind, .int .u64 (x.cmd.client : Int), .int .u64 (x.cmd.seq : Int), .string (strOf x.cmd.key), .int .i64 x.cmd.size, .int .u32 (x.cmd.sum : Int), .int .u64 (x.cmd.version : Int), .int .u64 (x.cmd.epoch : Int), .int .i64 x.cmd.group, .int .i64 x.cmd.node, .bool x.cmd.up, .int .u64 (x.cmd.id.ver : Int), .int .i64 x.cmd.id.idx, .int .u64 (x.cmd.id.ep : Int), .int .u64 (x.cmd.mep : Int), .slice A x.cmd.mem.length c, .slice B x.voters.length d, .slice E x.learners.length f] 86)) := (Below.refl _ _).alloc (Nat.le_refl _) _
  have hx : Blk (w.alloc (.cells #[.int .u64 (x.index : Int), .int .u64 (x.term : Int), .int .i64 x.kind, .int .i64 x.cmd.kind, .int .u64 (x.cmd.client : Int), .int .u64 (x.cmd.seq : Int), .string (strOf x.cmd.key), .int .i64 x.cmd.size, .int .u32 (x.cmd.sum : Int), .int .u64 (x.cmd.version : Int), .int .u64 (x.cmd.epoch : Int), .int .i64 x.cmd.group, .int .i64 x.cmd.node, .bool x.cmd.up, .int .u64 (x.cmd.id.ver : Int), .int .i64 x.cmd.id.idx, .int .u64 (x.cmd.id.ep : Int), .int .u64 (x.cmd.mep : Int), .slice A x.cmd.mem.length c, .slice B x.voters.length d, .slice E x.learners.length f] 86)) w.heap.size 86 #[.int .u64 (x.index : Int), .int .u64 (x.term : Int), .int .i64 x.kind, .int .i64 x.cmd.kind, .int .u64 (x.cmd.client : Int), .int .u64 (x.cmd.seq : Int), .string (strOf x.cmd.key), .int .i64 x.cmd.size, .int .u32 (x.cmd.sum : Int), .int .u64 (x.cmd.version : Int), .int .u64 (x.cmd.epoch : Int), .int .i64 x.cmd.group, .int .i64 x.cmd.node, .bool x.cmd.up, .int .u64 (x.cmd.id.ver : Int), .int .i64 x.cmd.id.idx, .int .u64 (x.cmd.id.ep : Int), .int .u64 (x.cmd.mep : Int), .slice A x.cmd.mem.length c, .slice B x.voters.length d, .slice E x.learners.length f] := Blk.new w _ _
  rw [ew0] at hb hx
  obtain ⟨H2, eH⟩ : ∃ H2 : Nat → Prop, (fun k => H k ∨ k = w.heap.size) = H2 := ⟨_, rfl⟩
  have h12 : ∀ k, H k → H2 k := fun k hk => by rw [← eH]; exact .inl hk
  have h2b : H2 w.heap.size := by rw [← eH]; exact .inr rfl
  have HP := Lh (show Sh H2 g xs w0 from (hp.out.mono (fun k hk => by rw [← eH] at hk; exact hk.imp id (fun e => by omega))).later hb)
  have HS := Lh (show Safe H2 g w0 from fun k hk => by rw [← eH] at hk; rcases hk with hk | hk; exact ⟨Nat.lt_of_lt_of_le (hS.out k hk).1 hb.size, (hS.out k hk).2⟩; exact ⟨by rw [hk]; exact hx.lt, by have := hp.out.lt; omega⟩)
  have HK := Lh (Keep.below hb : Keep H w w0)
  have HX := Lh hx
  have K := Lh (hK.out.later hb)
  have J := Lh (hJ.out.later hb)
  have I := Lh (hI.out.later hb)
  have H12 := Lh h12
  have H2B := Lh h2b
  clear hb hx eH h12 h2b
  have c0 := HX.out.cell 0
  go_enter Tryz.func54, Tryz.ntmps54
  go_wp2_with fail
  clear ew0
  refine (sh_number H2 g xs x.index _ HP HS HO.out.index (by have := HL.out; omega)).mono ?_
  rintro e w1 ⟨rfl, h1, h2⟩
  clear c0
  obtain ⟨y1, hy⟩ : ∃ y, xs ++ putN x.index = y := ⟨_, rfl⟩
  rw [hy] at h1
  have HL := Lh (show y1.length + 42992030 ≤ 70000000000000 from by have h3 := HL.out; have h4 := putN_len10 (n := x.index) HO.out.index; rw [← hy, List.length_append]; omega)
  have HY1 := Lh hy
  have HP := Lh h1
  have HS := Lh (HS.out.keep h2)
  have HX := Lh (h2.blk HX.out H2B.out)
  have HK := Lh (HK.out.trans (h2.mono H12.out))
  have K := Lh (h2.reads K.out (fun h ad e => H12.out _ (hKH.out h ad e)))
  have J := Lh (h2.reads J.out (fun h ad e => H12.out _ (hJH.out h ad e)))
  have I := Lh (h2.reads I.out (fun h ad e => H12.out _ (hIH.out h ad e)))
  clear h1 h2 hy
  have c1 := HX.out.cell 1
  go_wp2_with fail
  refine (sh_number H2 g y1 x.term _ HP HS HO.out.term (by have := HL.out; omega)).mono ?_
  rintro e w2 ⟨rfl, h1, h2⟩
  clear c1
  obtain ⟨y2, hy⟩ : ∃ y, y1 ++ putN x.term = y := ⟨_, rfl⟩
  rw [hy] at h1
  have HL := Lh (show y2.length + 42992020 ≤ 70000000000000 from by have h3 := HL.out; have h4 := putN_len10 (n := x.term) HO.out.term; rw [← hy, List.length_append]; omega)
  have HY2 := Lh hy
  have HP := Lh h1
  have HS := Lh (HS.out.keep h2)
  have HX := Lh (h2.blk HX.out H2B.out)
  have HK := Lh (HK.out.trans (h2.mono H12.out))
  have K := Lh (h2.reads K.out (fun h ad e => H12.out _ (hKH.out h ad e)))
  have J := Lh (h2.reads J.out (fun h ad e => H12.out _ (hJH.out h ad e)))
  have I := Lh (h2.reads I.out (fun h ad e => H12.out _ (hIH.out h ad e)))
  clear h1 h2 hy
  have c2 := HX.out.cell 2
  go_wp2_with fail
  refine (sh_int H2 g y2 x.kind _ HP HS HO.out.kind (by have := HL.out; omega)).mono ?_
  rintro e w3 ⟨rfl, h1, h2⟩
  clear c2
  obtain ⟨y3, hy⟩ : ∃ y, y2 ++ pInt x.kind = y := ⟨_, rfl⟩
  rw [hy] at h1
  have HL := Lh (show y3.length + 42992010 ≤ 70000000000000 from by have h3 := HL.out; have h4 := pInt_len (x := x.kind) HO.out.kind; rw [← hy, List.length_append]; omega)
  have HY3 := Lh hy
  have HP := Lh h1
  have HS := Lh (HS.out.keep h2)
  have HX := Lh (h2.blk HX.out H2B.out)
  have HK := Lh (HK.out.trans (h2.mono H12.out))
  have K := Lh (h2.reads K.out (fun h ad e => H12.out _ (hKH.out h ad e)))
  have J := Lh (h2.reads J.out (fun h ad e => H12.out _ (hJH.out h ad e)))
  have I := Lh (h2.reads I.out (fun h ad e => H12.out _ (hIH.out h ad e)))
  clear h1 h2 hy
  have c3 := HX.out.cell 3
  have c4 := HX.out.cell 4
  have c5 := HX.out.cell 5
  have c6 := HX.out.cell 6
  have c7 := HX.out.cell 7
  have c8 := HX.out.cell 8
  have c9 := HX.out.cell 9
  have c10 := HX.out.cell 10
  have c11 := HX.out.cell 11
  have c12 := HX.out.cell 12
  have c13 := HX.out.cell 13
  have c14 := HX.out.cell 14
  have c15 := HX.out.cell 15
  have c16 := HX.out.cell 16
  have c17 := HX.out.cell 17
  have c18 := HX.out.cell 18
  go_wp2_with fail
  refine (sh_cmd H2 g y3 A c x.cmd _ HP HS K (Lh (fun h ad e => H12.out _ (hKH.out h ad e))) HO.out.cmd (by have := HL.out; omega)).mono ?_
  rintro e w4 ⟨rfl, h1, h2⟩
  clear c3
  clear c4
  clear c5
  clear c6
  clear c7
  clear c8
  clear c9
  clear c10
  clear c11
  clear c12
  clear c13
  clear c14
  clear c15
  clear c16
  clear c17
  clear c18
  obtain ⟨y4, hy⟩ : ∃ y, y3 ++ pCmd x.cmd = y := ⟨_, rfl⟩
  rw [hy] at h1
  have HL := Lh (show y4.length + 20971610 ≤ 70000000000000 from by have h3 := HL.out; have h4 := pCmd_len (x := x.cmd) HO.out.cmd; rw [← hy, List.length_append]; omega)
  have HY4 := Lh hy
  have HP := Lh h1
  have HS := Lh (HS.out.keep h2)
  have HX := Lh (h2.blk HX.out H2B.out)
  have HK := Lh (HK.out.trans (h2.mono H12.out))
  have K := Lh (h2.reads K.out (fun h ad e => H12.out _ (hKH.out h ad e)))
  have J := Lh (h2.reads J.out (fun h ad e => H12.out _ (hJH.out h ad e)))
  have I := Lh (h2.reads I.out (fun h ad e => H12.out _ (hIH.out h ad e)))
  clear h1 h2 hy
  have c19 := HX.out.cell 19
  have c20 := HX.out.cell 20
  go_wp2_with fail
  refine (sh_conf H2 g y4 B d E f (x.voters, x.learners) _ HP HS J (Lh (fun h ad e => H12.out _ (hJH.out h ad e))) I (Lh (fun h ad e => H12.out _ (hIH.out h ad e))) ⟨HO.out.vot, HO.out.lea⟩ (by have := HL.out; omega)).mono ?_
  rintro e w5 ⟨rfl, h1, h2⟩
  clear c19
  clear c20
  obtain ⟨y5, hy⟩ : ∃ y, y4 ++ pConf (x.voters, x.learners) = y := ⟨_, rfl⟩
  rw [hy] at h1
  have HL := Lh (show y5.length + 20 ≤ 70000000000000 from by have h3 := HL.out; have h4 := pConf_len (x := (x.voters, x.learners)) ⟨HO.out.vot, HO.out.lea⟩; rw [← hy, List.length_append]; omega)
  have HY5 := Lh hy
  have HP := Lh h1
  have HS := Lh (HS.out.keep h2)
  have HX := Lh (h2.blk HX.out H2B.out)
  have HK := Lh (HK.out.trans (h2.mono H12.out))
  have K := Lh (h2.reads K.out (fun h ad e => H12.out _ (hKH.out h ad e)))
  have J := Lh (h2.reads J.out (fun h ad e => H12.out _ (hJH.out h ad e)))
  have I := Lh (h2.reads I.out (fun h ad e => H12.out _ (hIH.out h ad e)))
  clear h1 h2 hy
  go_wp2
  go_end0
  have hz : xs ++ pEnt x = y5 := by
    rw [← HY5.out, ← HY4.out, ← HY3.out, ← HY2.out, ← HY1.out]
    unfold pEnt
    simp only [List.append_assoc]
  rw [hz]
  exact ⟨rfl, HP.out.mono (fun k hk => .inl (H12.out k hk)), HK.out⟩
end Go.Proofs.YtijdbdenmcjmmaaGreatDoor
end
