/-
  The reference's Copy, message, New.
-/
import Derived.Test.YtmamdnikjfmenaaClB1
import Derived.Test.YtmamdnikjfmenaaClW5
namespace Go.Proofs.Ytmamdnikjfmenaa
open Go.RowKit
set_option linter.unusedVariables false
set_option maxRecDepth 100000 in
set_option maxHeartbeats 400000 in
theorem copy_bytes (A : Option Addr) (n cap : Nat) (xs : List Value) (w : World) (HR : Hid (Reads w w.heap.size 1 A n xs)) (h1 : Hid (∀ u ∈ xs, u.oneCell' = true)) (hm : n * 1 ≤ 140737488355328) :
    Calls Try.prog 33 #[.slice A n cap] w (RetL 5 n xs w) := by
  go_enter Try.func33, Try.ntmps33
  go_wp2_with (at_builtin
               refine wpl_append rfl (.tmp 3) (.tmp 4) _ rfl w w.heap.size 5 (.int .u8 0) 1 1 Try.underlying33 Try.infoB rfl (by decide) (.slice (some ⟨w.heap.size, 0, none⟩) 0 0) 0 [] rfl ?own (w.heap.size + 1) A n cap xs rfl ?rd h1.out (by omega) (by decide) ?bel ?base ?_
               case own => exact World.ownsRow_lit _ #[] 0 (Nat.le_refl _) (by unfold maxLen; omega) rfl
               case rd => exact (HR.out.alloc (Nat.le_refl _) _).more (by simp)
               case bel => exact (Below.refl _ _).alloc (Nat.le_refl _) _
               case base => simp
               intro v1 w1 hh)
  go_ret
  obtain ⟨ho, hb, _⟩ := hh.out
  rw [Nat.zero_add, List.nil_append] at ho
  obtain ⟨C, d, rfl, q1, q2⟩ := own_slice ho
  exact ⟨C, d, rfl, q1, q2, ho, hb⟩
set_option maxRecDepth 100000 in
set_option maxHeartbeats 2000000 in
theorem rmsg_any (c : Cal) (n : Nat) (N : Option Addr) (nc m : Nat) (D : Option Addr) (dc : Nat) (w : World) (h : Hid (CalIn w c n N nc m D dc)) (hcl : c.client ≤ 64) (ha0 : 0 ≤ c.at_) (ha1 : c.at_ < n) (hsm : m ≤ 140737488351232) :
    Calls Try.prog 34 #[.agg (c.cs n N nc m D dc)] w (AskRet c w) := by
  obtain ⟨k, hk⟩ : ∃ k : Nat, c.at_ = (k : Int) := ⟨c.at_.toNat, by omega⟩
  have hkn : k < n := by omega
  have hn2 := h.out.n2
  have hn1 := h.out.n1
  unfold maxLen at hn2
  clear ha0 ha1
  unfold Cal.cs
  rw [hk]
  have HK := Lib.hid hk
  clear hk
  have one := Lib.hid (bv_one c.data)
  have hbel := ((Below.refl w.heap.size w).alloc (Nat.le_refl _) (.cells #[.int .u64 c.client, .slice N n nc, .int .i64 (k : Nat), .int .i64 c.turn, .int .u64 c.seq, .bool c.opn, .int .i64 c.kind, .string c.key, .slice D m dc, .int .i64 c.waited, .int .i64 c.retry, .int .i64 c.limit] 40)).alloc (by simp) (.cells msgZ 38)
  have hc := (Blk.new w 40 #[.int .u64 c.client, .slice N n nc, .int .i64 (k : Nat), .int .i64 c.turn, .int .u64 c.seq, .bool c.opn, .int .i64 c.kind, .string c.key, .slice D m dc, .int .i64 c.waited, .int .i64 c.retry, .int .i64 c.limit]).alloc (.cells msgZ 38)
  have hz := Blk.new (w.alloc (.cells #[.int .u64 c.client, .slice N n nc, .int .i64 (k : Nat), .int .i64 c.turn, .int .u64 c.seq, .bool c.opn, .int .i64 c.kind, .string c.key, .slice D m dc, .int .i64 c.waited, .int .i64 c.retry, .int .i64 c.limit] 40)) 38 msgZ
  simp only [World.size_alloc] at hz
  obtain ⟨wb, hwb⟩ : ∃ wb, (w.alloc (.cells #[.int .u64 c.client, .slice N n nc, .int .i64 (k : Nat), .int .i64 c.turn, .int .u64 c.seq, .bool c.opn, .int .i64 c.kind, .string c.key, .slice D m dc, .int .i64 c.waited, .int .i64 c.retry, .int .i64 c.limit] 40)).alloc (.cells msgZ 38) = wb := ⟨_, rfl⟩
  have hsz : wb.heap.size = w.heap.size + 1 + 1 := by rw [← hwb]; simp
  rw [hwb] at hbel hc hz
  have HBEL := Lib.hid hbel
  have HZ := Lib.hid hz
  have HD := Lib.hid (h.out.dr.later hbel)
  obtain ⟨ad, rfl, _, hnode⟩ := (h.out.nr.later hbel).int_ hkn
  obtain ⟨to, hto⟩ : ∃ to, c.nodes.getD k 0 = to := ⟨_, rfl⟩
  rw [hto] at hnode
  have HTO : Hid (c.to = to) := Lib.hid (by unfold Cal.to; rw [HK.out]; exact hto)
  have x0 := hc.cell 0
  have x1 := hc.cell 1
  have x2 := hc.cell 2
  have x3 := hc.cell 3
  have x4 := hc.cell 4
  have x5 := hc.cell 5
  have x6 := hc.cell 6
  have x7 := hc.cell 7
  have x8 := hc.cell 8
  have x9 := hc.cell 9
  have x10 := hc.cell 10
  have x11 := hc.cell 11
  simp only [List.getElem?_toArray, List.getElem?_cons_zero, List.getElem?_cons_succ] at x0 x1 x2 x3 x4 x5 x6 x7 x8 x9 x10 x11
  have HSZ := Lib.hid hsz
  clear hbel hc hz hto hsz
  unfold msgZ at hwb
  go_enter Try.func34, Try.ntmps34
  go_wp2
  clear hwb
  have k1 : IntKind.i64.wrap (c.client : Int) = (c.client : Int) := IntWalk.i64_in _ (by omega)
  have k2 : IntKind.i64.wrap (1000 + (c.client : Int)) = 1000 + (c.client : Int) := IntWalk.i64_in _ (by omega)
  have k3 : (0 : Int) ≤ (k : Int) := by omega
  have k4 : (k : Int) < (n : Int) := by omega
  refine wp_region_late (S0 := fun _ => True) (S := fun w' => w'.cell? ⟨w.heap.size, 0, none⟩ = some (.int .u64 c.client) ∧ w'.cell? ⟨w.heap.size, 1, none⟩ = some (.slice (some ad) n nc) ∧ w'.cell? ⟨w.heap.size, 2, none⟩ = some (.int .i64 (k : Nat)) ∧ w'.cell? ⟨w.heap.size, 4, none⟩ = some (.int .u64 c.seq) ∧ w'.cell? ⟨w.heap.size, 6, none⟩ = some (.int .i64 c.kind) ∧ w'.cell? ⟨w.heap.size, 7, none⟩ = some (.string c.key) ∧ w'.cell? ⟨w.heap.size, 8, none⟩ = some (.slice D m dc) ∧ w'.cell? (ad.add k) = some (.int .i64 to)) 22 23 (by kernel_rfl) rfl ⟨trivial, x0, x1, x2, x4, x6, x7, x8, hnode⟩ (fun wd hwd hH => ?_)
  have HBD := Lib.hid (show Below wb.heap.size wb wd from by rw [hwd]; exact (Below.refl _ _).drew)
  clear hwd
  have HD := Lib.hid (HD.out.later HBD.out)
  have HZ := Lib.hid (HZ.out.below HBD.out HZ.out.lt)
  have HSZ := Lib.hid (show w.heap.size + 1 < wd.heap.size from by have := HBD.out.size; have := HSZ.out; omega)
  refine wpAnyT_take 0 (v := ?_) rfl (by kernel_rfl) (fun _ _ _ h => h) (Or.inl ⟨by rfl, ?_⟩) hH ?_
  rotate_left
  · (intro wx hx; obtain ⟨_, _, _, _, _, _, _, _⟩ := hx; go_simp <;> with_reducible rfl)
  try simp only [Act.put, List.setIfInBounds_toArray, List.set_cons_zero, List.set_cons_succ]
  refine wpAnyT_take 1 (v := ?_) rfl (by kernel_rfl) (fun _ _ _ h => h) (Or.inl ⟨by rfl, ?_⟩) hH ?_
  rotate_left
  · (intro wx hx; obtain ⟨_, _, _, _, _, _, _, _⟩ := hx; go_simp <;> with_reducible rfl)
  try simp only [Act.put, List.setIfInBounds_toArray, List.set_cons_zero, List.set_cons_succ]
  refine wpAnyT_take 2 (v := ?_) rfl (by kernel_rfl) (fun _ _ _ h => h) (Or.inl ⟨by rfl, ?_⟩) hH ?_
  rotate_left
  · (intro wx hx; obtain ⟨_, _, _, _, _, _, _, _⟩ := hx; go_simp <;> with_reducible rfl)
  try simp only [Act.put, List.setIfInBounds_toArray, List.set_cons_zero, List.set_cons_succ]
  refine wpAnyT_take 3 (v := ?_) rfl (by kernel_rfl) (fun _ _ _ h => h) (Or.inl ⟨by rfl, ?_⟩) hH ?_
  rotate_left
  · (intro wx hx; obtain ⟨_, _, _, _, _, _, _, _⟩ := hx; go_simp <;> with_reducible rfl)
  try simp only [Act.put, List.setIfInBounds_toArray, List.set_cons_zero, List.set_cons_succ]
  refine wpAnyT_take 4 (v := ?_) rfl (by kernel_rfl) (fun _ _ _ h => h) (Or.inl ⟨by rfl, ?_⟩) hH ?_
  rotate_left
  · (intro wx hx; obtain ⟨_, _, _, _, _, _, _, _⟩ := hx; go_simp <;> with_reducible rfl)
  try simp only [Act.put, List.setIfInBounds_toArray, List.set_cons_zero, List.set_cons_succ]
  refine wpAnyT_take 5 (v := ?_) rfl (by kernel_rfl) (fun _ _ _ h => h) (Or.inl ⟨by rfl, ?_⟩) hH ?_
  rotate_left
  · (intro wx hx; obtain ⟨_, _, _, _, _, _, _, _⟩ := hx; go_simp <;> with_reducible rfl)
  try simp only [Act.put, List.setIfInBounds_toArray, List.set_cons_zero, List.set_cons_succ]
  refine wpAnyT_take 6 (v := ?_) rfl (by kernel_rfl) (fun _ _ _ h => h) (Or.inl ⟨by rfl, ?_⟩) hH ?_
  rotate_left
  · (intro wx hx; obtain ⟨_, _, _, _, _, _, _, _⟩ := hx; go_simp <;> with_reducible rfl)
  try simp only [Act.put, List.setIfInBounds_toArray, List.set_cons_zero, List.set_cons_succ]
  refine wpAnyT_take 7 (v := ?_) rfl (by kernel_rfl) (fun _ _ _ h => h) (Or.inl ⟨by rfl, ?_⟩) hH ?_
  rotate_left
  · (intro wx hx; obtain ⟨_, _, _, _, _, _, _, _⟩ := hx; go_simp <;> with_reducible rfl)
  try simp only [Act.put, List.setIfInBounds_toArray, List.set_cons_zero, List.set_cons_succ]
  refine wpAnyT_take 8 (v := ?_) rfl (by kernel_rfl) (fun _ _ _ h => h) (Or.inl ⟨by rfl, ?_⟩) hH ?_
  rotate_left
  · (intro wx hx; obtain ⟨_, _, _, _, _, _, _, _⟩ := hx; go_simp <;> with_reducible rfl)
  try simp only [Act.put, List.setIfInBounds_toArray, List.set_cons_zero, List.set_cons_succ]
  refine wpAnyT_take 9 (v := ?_) rfl (by kernel_rfl) (fun _ _ _ h => h) (Or.inl ⟨by rfl, ?_⟩) hH ?_
  rotate_left
  · (intro wx hx; obtain ⟨_, _, _, _, _, _, _, _⟩ := hx; go_simp <;> with_reducible rfl)
  try simp only [Act.put, List.setIfInBounds_toArray, List.set_cons_zero, List.set_cons_succ]
  refine wpAnyT_take 10 (v := ?_) rfl (by kernel_rfl) (fun _ _ _ h => h) (Or.inl ⟨by rfl, ?_⟩) hH ?_
  rotate_left
  · (intro wx hx; obtain ⟨_, _, _, _, _, _, _, _⟩ := hx; go_simp <;> with_reducible rfl)
  try simp only [Act.put, List.setIfInBounds_toArray, List.set_cons_zero, List.set_cons_succ]
  refine wpAnyT_take 11 (v := ?_) rfl (by kernel_rfl) (fun _ _ _ h => h) (Or.inl ⟨by rfl, ?_⟩) hH ?_
  rotate_left
  · (intro wx hx; obtain ⟨_, _, _, _, _, _, _, _⟩ := hx; go_simp <;> with_reducible rfl)
  try simp only [Act.put, List.setIfInBounds_toArray, List.set_cons_zero, List.set_cons_succ]
  refine wpAnyT_take 12 (v := ?_) rfl (by kernel_rfl) (fun _ _ _ h => h) (Or.inl ⟨by rfl, ?_⟩) hH ?_
  rotate_left
  · (intro wx hx; obtain ⟨_, _, _, _, _, _, _, _⟩ := hx; go_simp <;> with_reducible rfl)
  try simp only [Act.put, List.setIfInBounds_toArray, List.set_cons_zero, List.set_cons_succ]
  refine wpAnyT_take 13 (v := ?_) rfl (by kernel_rfl) (fun _ _ _ h => h) (Or.inl ⟨by rfl, ?_⟩) hH ?_
  rotate_left
  · (intro wx hx; obtain ⟨_, _, _, _, _, _, _, _⟩ := hx; go_simp <;> with_reducible rfl)
  try simp only [Act.put, List.setIfInBounds_toArray, List.set_cons_zero, List.set_cons_succ]
  refine wpAnyT_take 14 (v := ?_) rfl (by kernel_rfl) (fun _ _ _ h => h) (Or.inl ⟨by rfl, ?_⟩) hH ?_
  rotate_left
  · (intro wx hx; obtain ⟨_, _, _, _, _, _, _, _⟩ := hx; go_simp <;> with_reducible rfl)
  try simp only [Act.put, List.setIfInBounds_toArray, List.set_cons_zero, List.set_cons_succ]
  refine wpAnyT_take 15 (v := ?_) rfl (by kernel_rfl) (fun _ _ _ h => h) (Or.inl ⟨by rfl, ?_⟩) hH ?_
  rotate_left
  · (intro wx hx; obtain ⟨_, _, _, _, _, _, _, _⟩ := hx; go_simp <;> with_reducible rfl)
  try simp only [Act.put, List.setIfInBounds_toArray, List.set_cons_zero, List.set_cons_succ]
  refine wpAnyT_take 16 (v := ?_) rfl (by kernel_rfl) (fun _ _ _ h => h) (Or.inl ⟨by rfl, ?_⟩) hH ?_
  rotate_left
  · (intro wx hx; obtain ⟨_, _, _, _, _, _, _, _⟩ := hx; go_simp <;> with_reducible rfl)
  try simp only [Act.put, List.setIfInBounds_toArray, List.set_cons_zero, List.set_cons_succ]
  refine wpAnyT_take 17 (v := ?_) rfl (by kernel_rfl) (fun _ _ _ h => h) (Or.inl ⟨by rfl, ?_⟩) hH ?_
  rotate_left
  · (intro wx hx; obtain ⟨_, _, _, _, _, _, _, _⟩ := hx; go_simp <;> with_reducible rfl)
  try simp only [Act.put, List.setIfInBounds_toArray, List.set_cons_zero, List.set_cons_succ]
  refine wpAnyT_take 18 (v := ?_) rfl (by kernel_rfl) (fun _ _ _ h => h) (Or.inl ⟨by rfl, ?_⟩) hH ?_
  rotate_left
  · (intro wx hx; obtain ⟨_, _, _, _, _, _, _, _⟩ := hx; go_simp <;> with_reducible rfl)
  try simp only [Act.put, List.setIfInBounds_toArray, List.set_cons_zero, List.set_cons_succ]
  refine wpAnyT_take 19 (v := ?_) rfl (by kernel_rfl) (fun _ _ _ h => h) (Or.inl ⟨by rfl, ?_⟩) hH ?_
  rotate_left
  · (intro wx hx; obtain ⟨_, _, _, _, _, _, _, _⟩ := hx; go_simp <;> with_reducible rfl)
  try simp only [Act.put, List.setIfInBounds_toArray, List.set_cons_zero, List.set_cons_succ]
  refine wpAnyT_one 20 rfl (by kernel_rfl) (fun K hK => ?_)
  go_simp
  (go_at_call 33; refine (copy_bytes D m dc (c.data.map bv) _ HD one (by omega)).mono ?_; rintro e w3 ⟨E, ec, rfl, q1, q2, q3, hb⟩; have HO := Lib.hid q3; have HB3 := Lib.hid hb; clear q3 hb)
  refine hK.out _ _ ?_ (fun hH20 => ?_)
  · exact ⟨trivial, cell_later HB3.out hH.2.1, cell_later HB3.out hH.2.2.1, cell_later HB3.out hH.2.2.2.1, cell_later HB3.out hH.2.2.2.2.1, cell_later HB3.out hH.2.2.2.2.2.1, cell_later HB3.out hH.2.2.2.2.2.2.1, cell_later HB3.out hH.2.2.2.2.2.2.2.1, cell_later HB3.out hH.2.2.2.2.2.2.2.2⟩
  clear hK K
  try simp only [Act.put, List.setIfInBounds_toArray, List.set_cons_zero, List.set_cons_succ]
  refine wpAnyT_take 21 (v := ?_) rfl (by kernel_rfl) (fun _ _ _ h => h) (Or.inl ⟨by rfl, ?_⟩) hH20 ?_
  rotate_left
  · (intro wx hx; obtain ⟨_, _, _, _, _, _, _, _⟩ := hx; go_simp <;> with_reducible rfl)
  try simp only [Act.put, List.setIfInBounds_toArray, List.set_cons_zero, List.set_cons_succ]
  refine wpAnyT_last 22 rfl (by kernel_rfl) (by decide) (fun K hK => ?_)
  refine step_store_blk rfl 38 (.tmp 2) (.tmp 24) rfl (w.heap.size + 1) 38 _ (askCs c to m E ec) rfl rfl (HZ.out.below HB3.out (by have := HSZ.out; omega)) rfl Try.sizeM rfl ?_
  intro w4 hB4 hO4
  refine hK.out _ _ ?_ (fun hH22 => ?_)
  · trivial
  clear hK K
  try simp only [Act.put]
  refine wpAnyT_done (by kernel_rfl) ?_ _
  have ho := hO4.out.own (own_base HO.out (base' := w.heap.size + 1 + 1) (by have := HSZ.out; omega)) (own_up (own_base HO.out (base' := w.heap.size + 1 + 1) (by have := HSZ.out; omega)) (by omega))
  have hb := (((HBEL.out.trans (HBD.out.mono HBEL.out.size)).trans (HB3.out.mono (by have := HSZ.out; omega))).trans (hO4.out.below (B := w.heap.size) (by omega)))
  have HF := Lib.hid (And.intro ho hb)
  clear ho hb
  go_wp2
  refine bodyPost_ret (v := .agg (askCs c to m E ec)) (res_c Try.results34 rfl (load_blk hB4.out Try.underlying38 rfl Try.sizeM)) rfl ⟨_, rfl, ⟨m, E, ec, by rw [HTO.out], h.out.dl, q1, q2, own_base HF.out.1 (by omega)⟩, HF.out.2⟩
theorem own_szs {w w' : World} {o : Obj} {t : TypeId} {size n : Nat} {v : Value} {xs : List Value} (h : w'.ownsRow (w.heap.size + 1) t size v n xs) : w'.ownsRow (w.alloc o).heap.size t size v n xs := by simpa using h
theorem own_new1 (w : World) (o : Obj) : ((w.alloc o).alloc (.cells #[] 3)).ownsRow (w.heap.size + 1) 3 1 (.slice (some ⟨w.heap.size + 1, 0, none⟩) 0 0) 0 [] := by
  have := World.ownsRow_lit (e := 3) (size := 1) (base := w.heap.size + 1) (w.alloc o) #[] 0 (by simp) (by unfold maxLen; omega) rfl
  simpa using this
set_option maxRecDepth 100000 in
set_option maxHeartbeats 1000000 in
theorem rnew_yes (id : Nat) (A : Option Addr) (n cap : Nat) (nodes : List Int) (retry limit : Int) (w : World) (hl : nodes.length = n) (HR : Hid (Reads w w.heap.size 1 A n (nodes.map iv))) (hm : n * 8 ≤ 140737488355328) (hid : id < 18446744073709551616) (hmay : May (Cal.new id nodes retry limit)) :
    Calls Try.prog 14 #[.int .u64 id, .slice A n cap, .int .i64 retry, .int .i64 limit] w (RetMade (Cal.new id nodes retry limit) n nodes w) := by
  have HM := Lib.hid hmay
  have HL := Lib.hid hl
  clear hmay hl
  have one := Lib.hid (iv_one nodes)
  have hb0 := (Below.refl w.heap.size w).alloc (Nat.le_refl _) (.cells #[.int .u64 0, .slice none 0 0, .int .i64 0, .int .i64 0, .int .u64 0, .bool false, .int .i64 0, .string ⟨#[]⟩, .slice none 0 0, .int .i64 0, .int .i64 0, .int .i64 0] 40)
  have HB0 := Lib.hid hb0
  have HR0 := Lib.hid (HR.out.later hb0)
  clear hb0
  go_enter Try.func14, Try.ntmps14
  go_wp2_with (first
    | (at_builtin
       refine wpl_append rfl (.tmp 12) (.tmp 13) _ rfl (w.alloc (.cells #[.int .u64 0, .slice none 0 0, .int .i64 0, .int .i64 0, .int .u64 0, .bool false, .int .i64 0, .string ⟨#[]⟩, .slice none 0 0, .int .i64 0, .int .i64 0, .int .i64 0] 40)) (w.heap.size + 1) 3 (.int .i64 0) 1 8 Try.underlying25 Try.infoI rfl (by decide) (.slice (some ⟨w.heap.size + 1, 0, none⟩) 0 0) 0 [] rfl ?own (w.heap.size + 1 + 1) A n cap (nodes.map iv) rfl ?rd one.out (by omega) (by decide) ?bel ?base ?_
       case own => exact own_new1 _ _
       case rd => exact (HR0.out.alloc (Nat.le_refl _) _).more (by simp)
       case bel => exact (Below.refl _ _).alloc (by simp) _
       case base => simp
       intro v1 w1 hh
       obtain ⟨ho, hb, _⟩ := hh.out
       rw [Nat.zero_add, List.nil_append] at ho
       obtain ⟨N, nc, rfl, q1, q2⟩ := own_slice ho
       have HO := Lib.hid (own_szs (o := .cells #[.int .u64 0, .slice none 0 0, .int .i64 0, .int .i64 0, .int .u64 0, .bool false, .int .i64 0, .string ⟨#[]⟩, .slice none 0 0, .int .i64 0, .int .i64 0, .int .i64 0] 40) ho)
       have H3 := Lib.hid (Reads.of_own ho)
       have HB1 := Lib.hid (show Below (w.alloc (.cells #[.int .u64 0, .slice none 0 0, .int .i64 0, .int .i64 0, .int .u64 0, .bool false, .int .i64 0, .string ⟨#[]⟩, .slice none 0 0, .int .i64 0, .int .i64 0, .int .i64 0] 40)).heap.size (w.alloc (.cells #[.int .u64 0, .slice none 0 0, .int .i64 0, .int .i64 0, .int .u64 0, .bool false, .int .i64 0, .string ⟨#[]⟩, .slice none 0 0, .int .i64 0, .int .i64 0, .int .i64 0] 40)) w1 from by simpa using hb)
       clear ho hb hh)
    | (go_at_call 32; have hin := Lib.hid (new_in (id := id) (retry := retry) (limit := limit) HL.out (H3.out.later ((Below.refl _ _).alloc (Nat.le_refl _) (.cells #[.int .u64 id, .slice N n nc, .int .i64 0, .int .i64 0, .int .u64 0, .bool false, .int .i64 0, .string ⟨#[]⟩, .slice none 0 0, .int .i64 0, .int .i64 retry, .int .i64 limit] 40))) q1 q2); refine (rmay_yes (c := Cal.new id nodes retry limit) hin HM.out).mono ?_; rintro e w2 ⟨rfl, hb⟩; have HB2 := Lib.hid hb; have hz := Lib.hid ((((Blk.new w 40 #[.int .u64 0, .slice none 0 0, .int .i64 0, .int .i64 0, .int .u64 0, .bool false, .int .i64 0, .string ⟨#[]⟩, .slice none 0 0, .int .i64 0, .int .i64 0, .int .i64 0]).below HB1.out (by simp)).alloc (.cells #[.int .u64 id, .slice N n nc, .int .i64 0, .int .i64 0, .int .u64 0, .bool false, .int .i64 0, .string ⟨#[]⟩, .slice none 0 0, .int .i64 0, .int .i64 retry, .int .i64 limit] 40)).below hb (by have := HB1.out.size; simp at this ⊢; omega)); have hc := (Blk.new w1 40 #[.int .u64 id, .slice N n nc, .int .i64 0, .int .i64 0, .int .u64 0, .bool false, .int .i64 0, .string ⟨#[]⟩, .slice none 0 0, .int .i64 0, .int .i64 retry, .int .i64 limit]).below hb (by simp); have c0 := hc.cell 0; have c1 := hc.cell 1; have c2 := hc.cell 2; have c3 := hc.cell 3; have c4 := hc.cell 4; have c5 := hc.cell 5; have c6 := hc.cell 6; have c7 := hc.cell 7; have c8 := hc.cell 8; have c9 := hc.cell 9; have c10 := hc.cell 10; have c11 := hc.cell 11; clear hb hc; simp only [List.getElem?_toArray, List.getElem?_cons_zero, List.getElem?_cons_succ] at c0 c1 c2 c3 c4 c5 c6 c7 c8 c9 c10 c11)
    | (refine wpl_store_blk rfl 40 (.tmp 8) (.tmp 22) rfl w.heap.size 40 _ #[.int .u64 id, .slice N n nc, .int .i64 0, .int .i64 0, .int .u64 0, .bool false, .int .i64 0, .string ⟨#[]⟩, .slice none 0 0, .int .i64 0, .int .i64 retry, .int .i64 limit] rfl rfl hz.out rfl Try.sizeC rfl ?_; intro w3 hB3 hO3))
  have hbel := ((HB0.out.trans (HB1.out.mono (by simp))).alloc (by have := HB1.out.size; simp at this ⊢; omega) (.cells #[.int .u64 id, .slice N n nc, .int .i64 0, .int .i64 0, .int .u64 0, .bool false, .int .i64 0, .string ⟨#[]⟩, .slice none 0 0, .int .i64 0, .int .i64 retry, .int .i64 limit] 40)).trans (HB2.out.mono (by have := HB1.out.size; simp at this ⊢; omega))
  have hne := own_up HO.out (g := w.heap.size) (by simp)
  have ho3 := hO3.out.own (own_below (HO.out.alloc (.cells #[.int .u64 id, .slice N n nc, .int .i64 0, .int .i64 0, .int .u64 0, .bool false, .int .i64 0, .string ⟨#[]⟩, .slice none 0 0, .int .i64 0, .int .i64 retry, .int .i64 limit] 40)) HB2.out) hne
  refine bodyPost_ret (v := .tuple #[.agg ((Cal.new id nodes retry limit).cs n N nc 0 none 0), .int .i64 0]) (res_ct Try.results14 rfl rfl (load_blk hB3.out Try.underlying40 rfl Try.sizeC)) rfl ⟨N, nc, rfl, q1, q2, own_base ho3 (by simp), hbel.trans (hO3.out.below (Nat.le_refl _))⟩
set_option maxRecDepth 100000 in
set_option maxHeartbeats 1000000 in
theorem rnew_no (id : Nat) (A : Option Addr) (n cap : Nat) (nodes : List Int) (retry limit : Int) (w : World) (hl : nodes.length = n) (HR : Hid (Reads w w.heap.size 1 A n (nodes.map iv))) (hm : n * 8 ≤ 140737488355328) (hid : id < 18446744073709551616) (hmay : ¬ May (Cal.new id nodes retry limit)) :
    Calls Try.prog 14 #[.int .u64 id, .slice A n cap, .int .i64 retry, .int .i64 limit] w (RetNew Cal.zero 2 w) := by
  have HM := Lib.hid hmay
  have HL := Lib.hid hl
  clear hmay hl
  have one := Lib.hid (iv_one nodes)
  have hb0 := (Below.refl w.heap.size w).alloc (Nat.le_refl _) (.cells #[.int .u64 0, .slice none 0 0, .int .i64 0, .int .i64 0, .int .u64 0, .bool false, .int .i64 0, .string ⟨#[]⟩, .slice none 0 0, .int .i64 0, .int .i64 0, .int .i64 0] 40)
  have HB0 := Lib.hid hb0
  have HR0 := Lib.hid (HR.out.later hb0)
  clear hb0
  go_enter Try.func14, Try.ntmps14
  go_wp2_with (first
    | (at_builtin
       refine wpl_append rfl (.tmp 12) (.tmp 13) _ rfl (w.alloc (.cells #[.int .u64 0, .slice none 0 0, .int .i64 0, .int .i64 0, .int .u64 0, .bool false, .int .i64 0, .string ⟨#[]⟩, .slice none 0 0, .int .i64 0, .int .i64 0, .int .i64 0] 40)) (w.heap.size + 1) 3 (.int .i64 0) 1 8 Try.underlying25 Try.infoI rfl (by decide) (.slice (some ⟨w.heap.size + 1, 0, none⟩) 0 0) 0 [] rfl ?own (w.heap.size + 1 + 1) A n cap (nodes.map iv) rfl ?rd one.out (by omega) (by decide) ?bel ?base ?_
       case own => exact own_new1 _ _
       case rd => exact (HR0.out.alloc (Nat.le_refl _) _).more (by simp)
       case bel => exact (Below.refl _ _).alloc (by simp) _
       case base => simp
       intro v1 w1 hh
       obtain ⟨ho, hb, _⟩ := hh.out
       rw [Nat.zero_add, List.nil_append] at ho
       obtain ⟨N, nc, rfl, q1, q2⟩ := own_slice ho
       have HO := Lib.hid (own_szs (o := .cells #[.int .u64 0, .slice none 0 0, .int .i64 0, .int .i64 0, .int .u64 0, .bool false, .int .i64 0, .string ⟨#[]⟩, .slice none 0 0, .int .i64 0, .int .i64 0, .int .i64 0] 40) ho)
       have H3 := Lib.hid (Reads.of_own ho)
       have HB1 := Lib.hid (show Below (w.alloc (.cells #[.int .u64 0, .slice none 0 0, .int .i64 0, .int .i64 0, .int .u64 0, .bool false, .int .i64 0, .string ⟨#[]⟩, .slice none 0 0, .int .i64 0, .int .i64 0, .int .i64 0] 40)).heap.size (w.alloc (.cells #[.int .u64 0, .slice none 0 0, .int .i64 0, .int .i64 0, .int .u64 0, .bool false, .int .i64 0, .string ⟨#[]⟩, .slice none 0 0, .int .i64 0, .int .i64 0, .int .i64 0] 40)) w1 from by simpa using hb)
       clear ho hb hh)
    | (go_at_call 32; have hin := Lib.hid (new_in (id := id) (retry := retry) (limit := limit) HL.out (H3.out.later ((Below.refl _ _).alloc (Nat.le_refl _) (.cells #[.int .u64 id, .slice N n nc, .int .i64 0, .int .i64 0, .int .u64 0, .bool false, .int .i64 0, .string ⟨#[]⟩, .slice none 0 0, .int .i64 0, .int .i64 retry, .int .i64 limit] 40))) q1 q2); refine (rmay_no (c := Cal.new id nodes retry limit) hin HM.out).mono ?_; rintro e w2 ⟨rfl, hb⟩; have HB2 := Lib.hid hb; have hz := Lib.hid ((((Blk.new w 40 #[.int .u64 0, .slice none 0 0, .int .i64 0, .int .i64 0, .int .u64 0, .bool false, .int .i64 0, .string ⟨#[]⟩, .slice none 0 0, .int .i64 0, .int .i64 0, .int .i64 0]).below HB1.out (by simp)).alloc (.cells #[.int .u64 id, .slice N n nc, .int .i64 0, .int .i64 0, .int .u64 0, .bool false, .int .i64 0, .string ⟨#[]⟩, .slice none 0 0, .int .i64 0, .int .i64 retry, .int .i64 limit] 40)).below hb (by have := HB1.out.size; simp at this ⊢; omega)); have hc := (Blk.new w1 40 #[.int .u64 id, .slice N n nc, .int .i64 0, .int .i64 0, .int .u64 0, .bool false, .int .i64 0, .string ⟨#[]⟩, .slice none 0 0, .int .i64 0, .int .i64 retry, .int .i64 limit]).below hb (by simp); have c0 := hc.cell 0; have c1 := hc.cell 1; have c2 := hc.cell 2; have c3 := hc.cell 3; have c4 := hc.cell 4; have c5 := hc.cell 5; have c6 := hc.cell 6; have c7 := hc.cell 7; have c8 := hc.cell 8; have c9 := hc.cell 9; have c10 := hc.cell 10; have c11 := hc.cell 11; clear hb hc; simp only [List.getElem?_toArray, List.getElem?_cons_zero, List.getElem?_cons_succ] at c0 c1 c2 c3 c4 c5 c6 c7 c8 c9 c10 c11)
    | (refine wpl_store_blk rfl 40 (.tmp 8) (.tmp 21) rfl w.heap.size 40 _ #[.int .u64 0, .slice none 0 0, .int .i64 0, .int .i64 0, .int .u64 0, .bool false, .int .i64 0, .string ⟨#[]⟩, .slice none 0 0, .int .i64 0, .int .i64 0, .int .i64 0] rfl rfl hz.out rfl Try.sizeC rfl ?_; intro w3 hB3 hO3))
  have hbel := ((HB0.out.trans (HB1.out.mono (by simp))).alloc (by have := HB1.out.size; simp at this ⊢; omega) (.cells #[.int .u64 id, .slice N n nc, .int .i64 0, .int .i64 0, .int .u64 0, .bool false, .int .i64 0, .string ⟨#[]⟩, .slice none 0 0, .int .i64 0, .int .i64 retry, .int .i64 limit] 40)).trans (HB2.out.mono (by have := HB1.out.size; simp at this ⊢; omega))
  refine bodyPost_ret (v := .tuple #[.agg (Cal.zero.cs 0 none 0 0 none 0), .int .i64 2]) (res_ct Try.results14 rfl rfl (load_blk hB3.out Try.underlying40 rfl Try.sizeC)) rfl ⟨_, rfl, ⟨0, none, 0, 0, none, 0, rfl, cal_zero_in _⟩, hbel.trans (hO3.out.below (Nat.le_refl _))⟩
end Go.Proofs.Ytmamdnikjfmenaa
