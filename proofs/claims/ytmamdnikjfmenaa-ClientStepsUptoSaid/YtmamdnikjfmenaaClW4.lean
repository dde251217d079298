/-
  ask, closed, callable.
-/
import Derived.Test.YtmamdnikjfmenaaClW3
import Derived.Test.YtmamdnikjfmenaaRegLate
namespace Go.Proofs.Ytmamdnikjfmenaa
open Go.RowKit
set_option linter.unusedVariables false
theorem Try.sizeM : (Try.prog.info? 38).map (·.size) = some 27 := by kernel_rfl
/-- The cells of a message that says nothing. -/
def msgZ : Array Value := #[.int .i64 0, .int .i64 0, .int .i64 0, .int .u64 0, .int .u64 0, .int .u64 0, .int .u64 0, .int .u64 0, .bool false, .bool false, .slice none 0 0, .slice none 0 0, .slice none 0 0, .int .u64 0, .int .i64 0, .int .u64 0, .int .i64 0, .int .i64 0, .int .i64 0, .int .u32 0, .slice none 0 0, .int .u64 0, .int .u64 0, .int .i64 0, .string ⟨#[]⟩, .int .i64 0, .slice none 0 0]
/-- The cells of what a caller asks. -/
def askCs (c : Cal) (to : Int) (m : Nat) (D : Option Addr) (dc : Nat) : Array Value :=
  #[.int .i64 16, .int .i64 (1000 + (c.client : Int)), .int .i64 to, .int .u64 0, .int .u64 0, .int .u64 0, .int .u64 0, .int .u64 0, .bool false, .bool false, .slice none 0 0, .slice none 0 0, .slice none 0 0, .int .u64 0, .int .i64 0, .int .u64 0, .int .i64 0, .int .i64 0, .int .i64 0, .int .u32 0, .slice D m dc, .int .u64 c.client, .int .u64 c.seq, .int .i64 c.kind, .string c.key, .int .i64 0, .slice none 0 0]
def Cal.to (c : Cal) : Int := c.nodes.getD c.at_.toNat 0
/-- What ask answers, behind a world. -/
def MsgRet (c : Cal) (base : Nat) (v : Value) (w' : World) : Prop := ∃ m D dc, v = .agg (askCs c c.to m D dc) ∧ c.data.length = m ∧ m ≤ dc ∧ dc ≤ maxLen ∧ w'.ownsRow base 5 1 (.slice D m dc) m (c.data.map bv)
def AskRet (c : Cal) (w : World) (e : Ending) (w' : World) : Prop := ∃ v, e = .returned v ∧ MsgRet c w.heap.size v w' ∧ Below w.heap.size w w'
set_option maxRecDepth 100000 in
set_option maxHeartbeats 2000000 in
theorem ask_any (c : Cal) (n : Nat) (N : Option Addr) (nc m : Nat) (D : Option Addr) (dc : Nat) (w : World) (h : Hid (CalIn w c n N nc m D dc)) (hcl : c.client ≤ 64) (ha0 : 0 ≤ c.at_) (ha1 : c.at_ < n) (hsm : m ≤ 140737488351232) :
    Calls Try.prog 25 #[.agg (c.cs n N nc m D dc)] w (AskRet c w) := by
  obtain ⟨k, hk⟩ : ∃ k : Nat, c.at_ = (k : Int) := ⟨c.at_.toNat, by omega⟩
  have hkn : k < n := by omega
  have hn2 := h.out.n2
  have hn1 := h.out.n1
  unfold maxLen at hn2
  clear ha0 ha1
  unfold Cal.cs
  rw [hk]
  have HK := Lib.hid hk
  clear hk
  have one := Lib.hid (bv_one c.data)
  have hbel := ((Below.refl w.heap.size w).alloc (Nat.le_refl _) (.cells #[.int .u64 c.client, .slice N n nc, .int .i64 (k : Nat), .int .i64 c.turn, .int .u64 c.seq, .bool c.opn, .int .i64 c.kind, .string c.key, .slice D m dc, .int .i64 c.waited, .int .i64 c.retry, .int .i64 c.limit] 40)).alloc (by simp) (.cells msgZ 38)
  have hc := (Blk.new w 40 #[.int .u64 c.client, .slice N n nc, .int .i64 (k : Nat), .int .i64 c.turn, .int .u64 c.seq, .bool c.opn, .int .i64 c.kind, .string c.key, .slice D m dc, .int .i64 c.waited, .int .i64 c.retry, .int .i64 c.limit]).alloc (.cells msgZ 38)
  have hz := Blk.new (w.alloc (.cells #[.int .u64 c.client, .slice N n nc, .int .i64 (k : Nat), .int .i64 c.turn, .int .u64 c.seq, .bool c.opn, .int .i64 c.kind, .string c.key, .slice D m dc, .int .i64 c.waited, .int .i64 c.retry, .int .i64 c.limit] 40)) 38 msgZ
  simp only [World.size_alloc] at hz
  obtain ⟨wb, hwb⟩ : ∃ wb, (w.alloc (.cells #[.int .u64 c.client, .slice N n nc, .int .i64 (k : Nat), .int .i64 c.turn, .int .u64 c.seq, .bool c.opn, .int .i64 c.kind, .string c.key, .slice D m dc, .int .i64 c.waited, .int .i64 c.retry, .int .i64 c.limit] 40)).alloc (.cells msgZ 38) = wb := ⟨_, rfl⟩
  have hsz : wb.heap.size = w.heap.size + 1 + 1 := by rw [← hwb]; simp
  rw [hwb] at hbel hc hz
  have HBEL := Lib.hid hbel
  have HZ := Lib.hid hz
  have HD := Lib.hid (h.out.dr.later hbel)
  obtain ⟨ad, rfl, _, hnode⟩ := (h.out.nr.later hbel).int_ hkn
  obtain ⟨to, hto⟩ : ∃ to, c.nodes.getD k 0 = to := ⟨_, rfl⟩
  rw [hto] at hnode
  have HTO : Hid (c.to = to) := Lib.hid (by unfold Cal.to; rw [HK.out]; exact hto)
  have x0 := hc.cell 0
  have x1 := hc.cell 1
  have x2 := hc.cell 2
  have x3 := hc.cell 3
  have x4 := hc.cell 4
  have x5 := hc.cell 5
  have x6 := hc.cell 6
  have x7 := hc.cell 7
  have x8 := hc.cell 8
  have x9 := hc.cell 9
  have x10 := hc.cell 10
  have x11 := hc.cell 11
  simp only [List.getElem?_toArray, List.getElem?_cons_zero, List.getElem?_cons_succ] at x0 x1 x2 x3 x4 x5 x6 x7 x8 x9 x10 x11
  have HSZ := Lib.hid hsz
  clear hbel hc hz hto hsz
  unfold msgZ at hwb
  go_enter Try.func25, Try.ntmps25
  go_wp2
  clear hwb
  have k1 : IntKind.i64.wrap (c.client : Int) = (c.client : Int) := IntWalk.i64_in _ (by omega)
  have k2 : IntKind.i64.wrap (1000 + (c.client : Int)) = 1000 + (c.client : Int) := IntWalk.i64_in _ (by omega)
  have k3 : (0 : Int) ≤ (k : Int) := by omega
  have k4 : (k : Int) < (n : Int) := by omega
  refine wp_region_late (S0 := fun _ => True) (S := fun w' => w'.cell? ⟨w.heap.size, 0, none⟩ = some (.int .u64 c.client) ∧ w'.cell? ⟨w.heap.size, 1, none⟩ = some (.slice (some ad) n nc) ∧ w'.cell? ⟨w.heap.size, 2, none⟩ = some (.int .i64 (k : Nat)) ∧ w'.cell? ⟨w.heap.size, 4, none⟩ = some (.int .u64 c.seq) ∧ w'.cell? ⟨w.heap.size, 6, none⟩ = some (.int .i64 c.kind) ∧ w'.cell? ⟨w.heap.size, 7, none⟩ = some (.string c.key) ∧ w'.cell? ⟨w.heap.size, 8, none⟩ = some (.slice D m dc) ∧ w'.cell? (ad.add k) = some (.int .i64 to)) 22 23 (by kernel_rfl) rfl ⟨trivial, x0, x1, x2, x4, x6, x7, x8, hnode⟩ (fun wd hwd hH => ?_)
  have HBD := Lib.hid (show Below wb.heap.size wb wd from by rw [hwd]; exact (Below.refl _ _).drew)
  clear hwd
  have HD := Lib.hid (HD.out.later HBD.out)
  have HZ := Lib.hid (HZ.out.below HBD.out HZ.out.lt)
  have HSZ := Lib.hid (show w.heap.size + 1 < wd.heap.size from by have := HBD.out.size; have := HSZ.out; omega)
  refine wpAnyT_take 0 (v := ?_) rfl (by kernel_rfl) (fun _ _ _ h => h) (Or.inl ⟨by rfl, ?_⟩) hH ?_
  rotate_left
  · (intro wx hx; obtain ⟨_, _, _, _, _, _, _, _⟩ := hx; go_simp <;> with_reducible rfl)
  try simp only [Act.put, List.setIfInBounds_toArray, List.set_cons_zero, List.set_cons_succ]
  refine wpAnyT_take 1 (v := ?_) rfl (by kernel_rfl) (fun _ _ _ h => h) (Or.inl ⟨by rfl, ?_⟩) hH ?_
  rotate_left
  · (intro wx hx; obtain ⟨_, _, _, _, _, _, _, _⟩ := hx; go_simp <;> with_reducible rfl)
  try simp only [Act.put, List.setIfInBounds_toArray, List.set_cons_zero, List.set_cons_succ]
  refine wpAnyT_take 2 (v := ?_) rfl (by kernel_rfl) (fun _ _ _ h => h) (Or.inl ⟨by rfl, ?_⟩) hH ?_
  rotate_left
  · (intro wx hx; obtain ⟨_, _, _, _, _, _, _, _⟩ := hx; go_simp <;> with_reducible rfl)
  try simp only [Act.put, List.setIfInBounds_toArray, List.set_cons_zero, List.set_cons_succ]
  refine wpAnyT_take 3 (v := ?_) rfl (by kernel_rfl) (fun _ _ _ h => h) (Or.inl ⟨by rfl, ?_⟩) hH ?_
  rotate_left
  · (intro wx hx; obtain ⟨_, _, _, _, _, _, _, _⟩ := hx; go_simp <;> with_reducible rfl)
  try simp only [Act.put, List.setIfInBounds_toArray, List.set_cons_zero, List.set_cons_succ]
  refine wpAnyT_take 4 (v := ?_) rfl (by kernel_rfl) (fun _ _ _ h => h) (Or.inl ⟨by rfl, ?_⟩) hH ?_
  rotate_left
  · (intro wx hx; obtain ⟨_, _, _, _, _, _, _, _⟩ := hx; go_simp <;> with_reducible rfl)
  try simp only [Act.put, List.setIfInBounds_toArray, List.set_cons_zero, List.set_cons_succ]
  refine wpAnyT_take 5 (v := ?_) rfl (by kernel_rfl) (fun _ _ _ h => h) (Or.inl ⟨by rfl, ?_⟩) hH ?_
  rotate_left
  · (intro wx hx; obtain ⟨_, _, _, _, _, _, _, _⟩ := hx; go_simp <;> with_reducible rfl)
  try simp only [Act.put, List.setIfInBounds_toArray, List.set_cons_zero, List.set_cons_succ]
  refine wpAnyT_take 6 (v := ?_) rfl (by kernel_rfl) (fun _ _ _ h => h) (Or.inl ⟨by rfl, ?_⟩) hH ?_
  rotate_left
  · (intro wx hx; obtain ⟨_, _, _, _, _, _, _, _⟩ := hx; go_simp <;> with_reducible rfl)
  try simp only [Act.put, List.setIfInBounds_toArray, List.set_cons_zero, List.set_cons_succ]
  refine wpAnyT_take 7 (v := ?_) rfl (by kernel_rfl) (fun _ _ _ h => h) (Or.inl ⟨by rfl, ?_⟩) hH ?_
  rotate_left
  · (intro wx hx; obtain ⟨_, _, _, _, _, _, _, _⟩ := hx; go_simp <;> with_reducible rfl)
  try simp only [Act.put, List.setIfInBounds_toArray, List.set_cons_zero, List.set_cons_succ]
  refine wpAnyT_take 8 (v := ?_) rfl (by kernel_rfl) (fun _ _ _ h => h) (Or.inl ⟨by rfl, ?_⟩) hH ?_
  rotate_left
  · (intro wx hx; obtain ⟨_, _, _, _, _, _, _, _⟩ := hx; go_simp <;> with_reducible rfl)
  try simp only [Act.put, List.setIfInBounds_toArray, List.set_cons_zero, List.set_cons_succ]
  refine wpAnyT_take 9 (v := ?_) rfl (by kernel_rfl) (fun _ _ _ h => h) (Or.inl ⟨by rfl, ?_⟩) hH ?_
  rotate_left
  · (intro wx hx; obtain ⟨_, _, _, _, _, _, _, _⟩ := hx; go_simp <;> with_reducible rfl)
  try simp only [Act.put, List.setIfInBounds_toArray, List.set_cons_zero, List.set_cons_succ]
  refine wpAnyT_take 10 (v := ?_) rfl (by kernel_rfl) (fun _ _ _ h => h) (Or.inl ⟨by rfl, ?_⟩) hH ?_
  rotate_left
  · (intro wx hx; obtain ⟨_, _, _, _, _, _, _, _⟩ := hx; go_simp <;> with_reducible rfl)
  try simp only [Act.put, List.setIfInBounds_toArray, List.set_cons_zero, List.set_cons_succ]
  refine wpAnyT_take 11 (v := ?_) rfl (by kernel_rfl) (fun _ _ _ h => h) (Or.inl ⟨by rfl, ?_⟩) hH ?_
  rotate_left
  · (intro wx hx; obtain ⟨_, _, _, _, _, _, _, _⟩ := hx; go_simp <;> with_reducible rfl)
  try simp only [Act.put, List.setIfInBounds_toArray, List.set_cons_zero, List.set_cons_succ]
  refine wpAnyT_take 12 (v := ?_) rfl (by kernel_rfl) (fun _ _ _ h => h) (Or.inl ⟨by rfl, ?_⟩) hH ?_
  rotate_left
  · (intro wx hx; obtain ⟨_, _, _, _, _, _, _, _⟩ := hx; go_simp <;> with_reducible rfl)
  try simp only [Act.put, List.setIfInBounds_toArray, List.set_cons_zero, List.set_cons_succ]
  refine wpAnyT_take 13 (v := ?_) rfl (by kernel_rfl) (fun _ _ _ h => h) (Or.inl ⟨by rfl, ?_⟩) hH ?_
  rotate_left
  · (intro wx hx; obtain ⟨_, _, _, _, _, _, _, _⟩ := hx; go_simp <;> with_reducible rfl)
  try simp only [Act.put, List.setIfInBounds_toArray, List.set_cons_zero, List.set_cons_succ]
  refine wpAnyT_take 14 (v := ?_) rfl (by kernel_rfl) (fun _ _ _ h => h) (Or.inl ⟨by rfl, ?_⟩) hH ?_
  rotate_left
  · (intro wx hx; obtain ⟨_, _, _, _, _, _, _, _⟩ := hx; go_simp <;> with_reducible rfl)
  try simp only [Act.put, List.setIfInBounds_toArray, List.set_cons_zero, List.set_cons_succ]
  refine wpAnyT_take 15 (v := ?_) rfl (by kernel_rfl) (fun _ _ _ h => h) (Or.inl ⟨by rfl, ?_⟩) hH ?_
  rotate_left
  · (intro wx hx; obtain ⟨_, _, _, _, _, _, _, _⟩ := hx; go_simp <;> with_reducible rfl)
  try simp only [Act.put, List.setIfInBounds_toArray, List.set_cons_zero, List.set_cons_succ]
  refine wpAnyT_take 16 (v := ?_) rfl (by kernel_rfl) (fun _ _ _ h => h) (Or.inl ⟨by rfl, ?_⟩) hH ?_
  rotate_left
  · (intro wx hx; obtain ⟨_, _, _, _, _, _, _, _⟩ := hx; go_simp <;> with_reducible rfl)
  try simp only [Act.put, List.setIfInBounds_toArray, List.set_cons_zero, List.set_cons_succ]
  refine wpAnyT_take 17 (v := ?_) rfl (by kernel_rfl) (fun _ _ _ h => h) (Or.inl ⟨by rfl, ?_⟩) hH ?_
  rotate_left
  · (intro wx hx; obtain ⟨_, _, _, _, _, _, _, _⟩ := hx; go_simp <;> with_reducible rfl)
  try simp only [Act.put, List.setIfInBounds_toArray, List.set_cons_zero, List.set_cons_succ]
  refine wpAnyT_take 18 (v := ?_) rfl (by kernel_rfl) (fun _ _ _ h => h) (Or.inl ⟨by rfl, ?_⟩) hH ?_
  rotate_left
  · (intro wx hx; obtain ⟨_, _, _, _, _, _, _, _⟩ := hx; go_simp <;> with_reducible rfl)
  try simp only [Act.put, List.setIfInBounds_toArray, List.set_cons_zero, List.set_cons_succ]
  refine wpAnyT_take 19 (v := ?_) rfl (by kernel_rfl) (fun _ _ _ h => h) (Or.inl ⟨by rfl, ?_⟩) hH ?_
  rotate_left
  · (intro wx hx; obtain ⟨_, _, _, _, _, _, _, _⟩ := hx; go_simp <;> with_reducible rfl)
  try simp only [Act.put, List.setIfInBounds_toArray, List.set_cons_zero, List.set_cons_succ]
  refine wpAnyT_one 20 rfl (by kernel_rfl) (fun K hK => ?_)
  go_simp
  (go_at_call 27; refine (clone_bytes D m dc (c.data.map bv) _ HD one (by omega)).mono ?_; rintro e w3 ⟨E, ec, rfl, q1, q2, q3, hb⟩; have HO := Lib.hid q3; have HB3 := Lib.hid hb; clear q3 hb)
  refine hK.out _ _ ?_ (fun hH20 => ?_)
  · exact ⟨trivial, cell_later HB3.out hH.2.1, cell_later HB3.out hH.2.2.1, cell_later HB3.out hH.2.2.2.1, cell_later HB3.out hH.2.2.2.2.1, cell_later HB3.out hH.2.2.2.2.2.1, cell_later HB3.out hH.2.2.2.2.2.2.1, cell_later HB3.out hH.2.2.2.2.2.2.2.1, cell_later HB3.out hH.2.2.2.2.2.2.2.2⟩
  clear hK K
  try simp only [Act.put, List.setIfInBounds_toArray, List.set_cons_zero, List.set_cons_succ]
  refine wpAnyT_take 21 (v := ?_) rfl (by kernel_rfl) (fun _ _ _ h => h) (Or.inl ⟨by rfl, ?_⟩) hH20 ?_
  rotate_left
  · (intro wx hx; obtain ⟨_, _, _, _, _, _, _, _⟩ := hx; go_simp <;> with_reducible rfl)
  try simp only [Act.put, List.setIfInBounds_toArray, List.set_cons_zero, List.set_cons_succ]
  refine wpAnyT_last 22 rfl (by kernel_rfl) (by decide) (fun K hK => ?_)
  refine step_store_blk rfl 38 (.tmp 2) (.tmp 24) rfl (w.heap.size + 1) 38 _ (askCs c to m E ec) rfl rfl (HZ.out.below HB3.out (by have := HSZ.out; omega)) rfl Try.sizeM rfl ?_
  intro w4 hB4 hO4
  refine hK.out _ _ ?_ (fun hH22 => ?_)
  · trivial
  clear hK K
  try simp only [Act.put]
  refine wpAnyT_done (by kernel_rfl) ?_ _
  have ho := hO4.out.own (own_base HO.out (base' := w.heap.size + 1 + 1) (by have := HSZ.out; omega)) (own_up (own_base HO.out (base' := w.heap.size + 1 + 1) (by have := HSZ.out; omega)) (by omega))
  have hb := (((HBEL.out.trans (HBD.out.mono HBEL.out.size)).trans (HB3.out.mono (by have := HSZ.out; omega))).trans (hO4.out.below (B := w.heap.size) (by omega)))
  have HF := Lib.hid (And.intro ho hb)
  clear ho hb
  go_wp2
  refine bodyPost_ret (v := .agg (askCs c to m E ec)) (res_c Try.results25 rfl (load_blk hB4.out Try.underlying38 rfl Try.sizeM)) rfl ⟨_, rfl, ⟨m, E, ec, by rw [HTO.out], h.out.dl, q1, q2, own_base HF.out.1 (by omega)⟩, HF.out.2⟩
theorem blk_second (w : World) (o : Obj) (t : TypeId) (cs : Array Value) : Blk ((w.alloc o).alloc (.cells cs t)) (w.heap.size + 1) t cs := by
  have := Blk.new (w.alloc o) t cs
  simpa using this
def Cal.closed (c : Cal) : Cal := { c with opn := false, kind := 0, key := ⟨#[]⟩, data := [], waited := 0 }
theorem closed_in {c : Cal} {n : Nat} {N : Option Addr} {nc m : Nat} {D : Option Addr} {dc : Nat} {w : World} (h : CalIn w c n N nc m D dc) : CalIn w c.closed n N nc 0 none 0 :=
  ⟨h.nl, h.nr, h.n1, h.n2, rfl, Reads.none_, Nat.le_refl _, by unfold maxLen; omega, fun x hx => by cases hx⟩
set_option maxRecDepth 100000 in
set_option maxHeartbeats 2000000 in
theorem closed_any (c : Cal) (n : Nat) (N : Option Addr) (nc m : Nat) (D : Option Addr) (dc : Nat) (w : World) :
    Calls Try.prog 26 #[.agg (c.cs n N nc m D dc)] w fun e w' => e = .returned (.agg (c.closed.cs n N nc 0 none 0)) ∧ Below w.heap.size w w' := by
  unfold Cal.cs
  have hbel := ((Below.refl w.heap.size w).alloc (Nat.le_refl _) (.cells #[.int .u64 c.client, .slice N n nc, .int .i64 c.at_, .int .i64 c.turn, .int .u64 c.seq, .bool false, .int .i64 0, .string ⟨#[]⟩, .slice none 0 0, .int .i64 0, .int .i64 c.retry, .int .i64 c.limit] 40)).alloc (by simp) (.cells #[.int .u64 0, .slice none 0 0, .int .i64 0, .int .i64 0, .int .u64 0, .bool false, .int .i64 0, .string ⟨#[]⟩, .slice none 0 0, .int .i64 0, .int .i64 0, .int .i64 0] 40)
  go_enter Try.func26, Try.ntmps26
  go_wp2_with (refine wpl_store_blk rfl 40 (.tmp 2) (.tmp 8) rfl (w.heap.size + 1) 40 #[.int .u64 0, .slice none 0 0, .int .i64 0, .int .i64 0, .int .u64 0, .bool false, .int .i64 0, .string ⟨#[]⟩, .slice none 0 0, .int .i64 0, .int .i64 0, .int .i64 0] #[.int .u64 c.client, .slice N n nc, .int .i64 c.at_, .int .i64 c.turn, .int .u64 c.seq, .bool false, .int .i64 0, .string ⟨#[]⟩, .slice none 0 0, .int .i64 0, .int .i64 c.retry, .int .i64 c.limit] rfl rfl (blk_second _ _ _ _) rfl Try.sizeC rfl ?_; intro w3 hB3 hO3)
  exact bodyPost_ret (res_c Try.results26 rfl (load_blk hB3.out Try.underlying40 rfl Try.sizeC)) rfl ⟨rfl, hbel.trans (hO3.out.below (by omega))⟩
set_option maxRecDepth 100000 in
set_option maxHeartbeats 400000 in
theorem callable_list (w : World) : Calls Try.prog 29 #[.int .i64 4, .string ⟨#[]⟩, .slice none 0 0] w fun e w' => e = .returned (.bool true) ∧ w = w' := by
  go_enter Try.func29, Try.ntmps29
  go_wp2
  go_ret
  exact ⟨rfl, rfl⟩
set_option maxRecDepth 100000 in
set_option maxHeartbeats 400000 in
theorem callable_get (w : World) : Calls Try.prog 29 #[.int .i64 2, .string ⟨#[97]⟩, .slice none 0 0] w fun e w' => e = .returned (.bool true) ∧ w = w' := by
  go_enter Try.func29, Try.ntmps29
  go_wp2
  go_ret
  exact ⟨rfl, rfl⟩
set_option maxRecDepth 100000 in
set_option maxHeartbeats 400000 in
theorem callable_put (D : Option Addr) (dc : Nat) (w : World) : Calls Try.prog 29 #[.int .i64 1, .string ⟨#[97]⟩, .slice D 1 dc] w fun e w' => e = .returned (.bool true) ∧ w = w' := by
  go_enter Try.func29, Try.ntmps29
  go_wp2
  go_ret
  exact ⟨rfl, rfl⟩
end Go.Proofs.Ytmamdnikjfmenaa
