/-
  ClientBegins, walked.
-/
import Derived.Test.YtmamdnikjfmenaaClB4
import Derived.Test.YtmamdnikjfmenaaClW10
import Derived.Test.YtmamdnikjfmenaaPenW3
namespace Go.Proofs.Ytmamdnikjfmenaa
open Go.RowKit
set_option linter.unusedVariables false
def Yes (W : World) (e : Ending) (w' : World) : Prop := e = .returned (.bool true) ∧ Below W.heap.size W w'
theorem wpl_load_blk_g {P : Program} {ops : Array Oper} {rest : List Oper} {op : Oper} {a : Act} {w : World} {Q : Exit → Act → World → Prop} (hgd : Region.wanted op (yielded ops a.tmps) = true) (ty : TypeId) (x : Operand) (ho : op.op = .load ty x)
    (g : Nat) (t : TypeId) (cs : Array Value) (d : TypeDesc) (hx : a.eval x = .pointer (some ⟨g, 0, none⟩)) (hB : Blk w g t cs) (hu : P.underlying ty = some d) (hd : d.isRow = true) (hi : (P.info? ty).map (·.size) = some cs.size)
    (h : wpList P ops Q rest (a.put op.dst (.agg cs)) w) : wpList P ops Q (op :: rest) a w := by
  unfold wpList
  rw [if_pos hgd]
  exact .inl (wp_load_mid ty x ho g 0 hx cs.toList d (fun j v hv => by rw [Nat.zero_add, hB.cell]; simpa using hv) hu hd (by simpa using hi) (by simpa using h))
/-- What a caller asks, as a message; the message that says nothing. -/
def askM (c : Cal) : Mg := { kind := 16, fro := 1000 + (c.client : Int), to := c.to, idx := 0, kk := 0, nn := 0, sz := 0, op := c.kind, code := 0, term := 0, index := 0, logt := 0, commit := 0, ctx := 0, ver := 0, ep := 0, client := c.client, seq := c.seq, sm := 0, ok := false, force := false, key := c.key, data := c.data }
def nilM : Mg := { kind := 0, fro := 0, to := 0, idx := 0, kk := 0, nn := 0, sz := 0, op := 0, code := 0, term := 0, index := 0, logt := 0, commit := 0, ctx := 0, ver := 0, ep := 0, client := 0, seq := 0, sm := 0, ok := false, force := false, key := ⟨#[]⟩, data := [] }
theorem askM_cs (c : Cal) (m : Nat) (D : Option Addr) (dc : Nat) : askCs c c.to m D dc = (askM c).cs m D dc := rfl
theorem nilM_cs : msgZ = nilM.cs 0 none 0 := rfl
theorem nilM_ok : nilM.Ok := by constructor <;> decide
theorem may_to {c : Cal} (hm : May c) : 1 ≤ c.to ∧ c.to ≤ 32 := by
  have h2 := hm.a0
  have h3 := hm.a1
  have h4 := hm.nodes c.at_.toNat (by omega)
  exact ⟨h4.1, h4.2.1⟩
theorem askM_ok {c : Cal} (h1 : c.client ≤ 64) (h4 : 1 ≤ c.to ∧ c.to ≤ 32) (k1 : -9223372036854775808 ≤ c.kind) (k2 : c.kind ≤ 9223372036854775807) (hs : c.seq < 18446744073709551616) (hk : c.key.size ≤ 10000000000000) (hd : c.data.length ≤ 10000000000000) : (askM c).Ok := by
  constructor <;> simp only [askM] <;> omega
def RetC (c : Cal) (code : Int) (w : World) (e : Ending) (w' : World) : Prop := ∃ n N nc m D dc, e = .returned (.tuple #[.agg (c.cs n N nc m D dc), .int .i64 code]) ∧ CalIn w' c n N nc m D dc ∧ Below w.heap.size w w'
def RetCM (c : Cal) (M : Mg) (code : Int) (w : World) (e : Ending) (w' : World) : Prop :=
  ∃ n N nc m D dc m' D' dc', e = .returned (.tuple #[.agg (c.cs n N nc m D dc), .agg (M.cs m' D' dc'), .int .i64 code]) ∧ CalIn w' c n N nc m D dc ∧ M.data.length = m' ∧ Reads w' w'.heap.size 1 D' m' (M.data.map bv) ∧ Below w.heap.size w w'
theorem made_c {c : Cal} {n : Nat} {id : Nat} {nodes : List Int} {retry limit : Int} {w w' : World} {e : Ending} (hl : nodes.length = n) (h : RetMade (Cal.new id nodes retry limit) n nodes w e w') : RetC (Cal.new id nodes retry limit) 0 w e w' := by
  obtain ⟨N, nc, rfl, q1, q2, ho, hb⟩ := h
  exact ⟨n, N, nc, 0, none, 0, rfl, new_in hl (Reads.of_own ho) q1 q2, hb⟩
theorem new_c {c : Cal} {code : Int} {w w' : World} {e : Ending} (h : RetNew c code w e w') : RetC c code w e w' := by
  obtain ⟨v, rfl, ⟨n, N, nc, m, D, dc, rfl, hi⟩, hb⟩ := h
  exact ⟨n, N, nc, m, D, dc, rfl, hi, hb⟩
/-- Both News answer the same. -/
theorem news (id : Nat) (n cap : Nat) (nodes : List Int) (retry limit : Int) (hl : nodes.length = n) (hm : n * 8 ≤ 140737488355328) (hid : id < 18446744073709551616) :
    ∃ c code, ∀ (A : Option Addr) (w : World), Hid (Reads w w.heap.size 1 A n (nodes.map iv)) →
      Calls Try.prog 8 #[.int .u64 id, .slice A n cap, .int .i64 retry, .int .i64 limit] w (RetC c code w) ∧
      Calls Try.prog 14 #[.int .u64 id, .slice A n cap, .int .i64 retry, .int .i64 limit] w (RetC c code w) := by
  by_cases h : May (Cal.new id nodes retry limit)
  · exact ⟨_, _, fun A w HR => ⟨(new_yes id A n cap nodes retry limit w hl HR hm hid h).mono fun e w' k => made_c (c := Cal.zero) hl k, (rnew_yes id A n cap nodes retry limit w hl HR hm hid h).mono fun e w' k => made_c (c := Cal.zero) hl k⟩⟩
  · exact ⟨_, _, fun A w HR => ⟨(new_no id A n cap nodes retry limit w hl HR hm hid h).mono fun e w' k => new_c k, (rnew_no id A n cap nodes retry limit w hl HR hm hid h).mono fun e w' k => new_c k⟩⟩
theorem ref_cm {c : Cal} {n m : Nat} {N : Option Addr} {nc : Nat} {D : Option Addr} {dc : Nat} {code : Int} {w w' : World} {e : Ending} (hi : CalIn w c n N nc m D dc) (h : RetRef (c.cs n N nc m D dc) code w e w') : RetCM c nilM code w e w' := by
  obtain ⟨rfl, hb⟩ := h
  exact ⟨n, N, nc, m, D, dc, 0, none, 0, rfl, hi.later hb, rfl, Reads.none_, hb⟩
theorem call_cm {c : Cal} {n : Nat} {N : Option Addr} {nc : Nat} {w w' : World} {e : Ending} (hl : c.nodes.length = n) (hr : Reads w w.heap.size 1 N n (c.nodes.map iv)) (h1 : n ≤ nc) (h2 : nc ≤ maxLen) (hb' : Byt c.data) (h : RetCall c n N nc w e w') : RetCM c (askM c) 0 w e w' := by
  obtain ⟨m, F, fc, u, rfl, k1, k2, k3, ho, ⟨um, U, uc, rfl, u1, u2, u3, u4⟩, hb⟩ := h
  exact ⟨n, N, nc, m, F, fc, um, U, uc, rfl, ⟨hl, hr.later hb, h1, h2, k1, Reads.of_own ho, k2, k3, hb'⟩, u1, Reads.of_own u4, hb⟩
/-- Both Calls answer the same. -/
theorem calls_ (c : Cal) (n : Nat) (N : Option Addr) (nc m : Nat) (D : Option Addr) (dc : Nat) (kind : Int) (key : ByteArray) (E : Option Addr) (em ec : Nat) (data : List Nat) (hel : data.length = em) (heb : Byt data) (hem : em ≤ 140737488351232) (hk : key.size ≤ maxLen) :
    ∃ c' M code, M.Ok ∧ ∀ w : World, Hid (CalIn w c n N nc m D dc) → Hid (Reads w w.heap.size 1 E em (data.map bv)) →
      Calls Try.prog 11 #[.agg (c.cs n N nc m D dc), .int .i64 kind, .string key, .slice E em ec] w (RetCM c' M code w) ∧
      Calls Try.prog 15 #[.agg (c.cs n N nc m D dc), .int .i64 kind, .string key, .slice E em ec] w (RetCM c' M code w) := by
  have he : em ≤ maxLen := by unfold maxLen; omega
  by_cases hm : May c
  · cases ho : c.opn with
    | true => exact ⟨_, _, _, nilM_ok, fun w h HE => ⟨(call_busy c n N nc m D dc kind key E em ec w h hm ho).mono fun e w' k => ref_cm h.out k, (rcall_busy c n N nc m D dc kind key E em ec w h hm ho).mono fun e w' k => ref_cm h.out k⟩⟩
    | false =>
      cases hc : callB kind key.size em with
      | false => exact ⟨_, _, _, nilM_ok, fun w h HE => ⟨(call_bad c n N nc m D dc kind key E em ec w h hm ho hc hk he).mono fun e w' k => ref_cm h.out k, (rcall_bad c n N nc m D dc kind key E em ec w h hm ho hc hk he).mono fun e w' k => ref_cm h.out k⟩⟩
      | true =>
        have hc' := of_decide_eq_true hc
        have hs := hm.s1
        exact ⟨_, _, _, askM_ok (c := c.calls kind key data) hm.c2 (show 1 ≤ c.to ∧ c.to ≤ 32 from may_to hm) (by show -9223372036854775808 ≤ kind; omega) (by show kind ≤ 9223372036854775807; omega) (by show c.seq + 1 < _; omega) (by show key.size ≤ _; omega) (by show data.length ≤ _; omega), fun w h HE =>
          ⟨(call_yes c n N nc m D dc kind key E em ec data w h hm ho hel HE heb hem (fun W => hc ▸ callable_any kind key E em ec hk he W)).mono fun e w' k => call_cm h.out.nl h.out.nr h.out.n1 h.out.n2 heb k,
           (rcall_yes c n N nc m D dc kind key E em ec data w h hm ho hel HE heb hem hc).mono fun e w' k => call_cm h.out.nl h.out.nr h.out.n1 h.out.n2 heb k⟩⟩
  · exact ⟨_, _, _, nilM_ok, fun w h HE => ⟨(call_may c n N nc m D dc kind key E em ec w h hm).mono fun e w' k => ref_cm (cal_zero_in w) k, (rcall_may c n N nc m D dc kind key E em ec w h hm).mono fun e w' k => ref_cm (cal_zero_in w) k⟩⟩
theorem cal_dims {c : Cal} {n m n' m' : Nat} {N N' : Option Addr} {nc nc' : Nat} {D D' : Option Addr} {dc dc' : Nat} {w w' : World} (h : CalIn w c n N nc m D dc) (h' : CalIn w' c n' N' nc' m' D' dc') : n = n' ∧ m = m' := ⟨h.nl.symm.trans h'.nl, h.dl.symm.trans h'.dl⟩
set_option maxRecDepth 100000 in
set_option maxHeartbeats 40000000 in
theorem begins_ok (W : World) (id : Nat) (A : Option Addr) (an ac : Nat) (nodes : List Int) (retry limit : Int) (c : Cal) (n : Nat) (N : Option Addr) (nc m : Nat) (D : Option Addr) (dc : Nat) (kind : Int) (key : ByteArray) (E : Option Addr) (em ec : Nat) (data : List Nat)
    (hid : id < 18446744073709551616) (hl : nodes.length = an) (HA0 : Hid (Reads W W.heap.size 1 A an (nodes.map iv))) (hm : an * 8 ≤ 140737488355328) (hc : CalIn W c n N nc m D dc) (hel : data.length = em) (HE0 : Hid (Reads W W.heap.size 1 E em (data.map bv))) (heb : Byt data) (hem : em ≤ 140737488351232) (hk : key.size ≤ maxLen) :
    Calls Try.prog 5 #[.int .u64 id, .slice A an ac, .int .i64 retry, .int .i64 limit, .agg (c.cs n N nc m D dc), .int .i64 kind, .string key, .slice E em ec] W (Yes W) := by
  obtain ⟨c1, code1, hnew⟩ := news id an ac nodes retry limit hl hm hid
  obtain ⟨c2, M, code2, hok, hcall⟩ := calls_ c n N nc m D dc kind key E em ec data hel heb hem hk
  have HNEW := Lib.hid hnew
  have HCALL := Lib.hid hcall
  have HOK := Lib.hid hok
  have hb0 := (Below.refl W.heap.size W).alloc (Nat.le_refl _) (.cells (c.cs n N nc m D dc) 40)
  have HRA := Lib.hid (HA0.out.later hb0)
  have HRE := Lib.hid (HE0.out.later hb0)
  have CC := Lib.hid (hc.later hb0)
  have NB := Lib.hid hb0
  have B12 := Lib.hid (Blk.new W 40 (c.cs n N nc m D dc))
  have tk1 : True := trivial
  clear hnew hcall hok hb0 hid hl HA0 hm hc hel HE0 heb hem hk
  go_enter Try.func5, Try.ntmps5
  go_wp2_with (first
    | (refine wpl_load_blk rfl 40 (.tmp 12) rfl W.heap.size 40 _ _ rfl B12.out Try.underlying40 rfl Try.sizeC ?_)
    | (go_at_call 8; refine ((HNEW.out A _ HRA).1).mono ?_; rintro e w1 ⟨n1, N1, nc1, m1, D1, dc1, rfl, hi, hb⟩; have HRA := Lib.hid (HRA.out.later hb); have HRE := Lib.hid (HRE.out.later hb); have CC := Lib.hid (CC.out.later hb); have B12 := Lib.hid (B12.out.below hb B12.out.lt); have CI1 := Lib.hid hi; have NB := Lib.hid (bel_trans NB.out (hb)); clear hi hb)
    | (refine wpl_store_blk rfl 40 (.tmp 17) (.tmp 33) rfl (w1.heap.size) 40 (#[.int .u64 0, .slice none 0 0, .int .i64 0, .int .i64 0, .int .u64 0, .bool false, .int .i64 0, .string ⟨#[]⟩, .slice none 0 0, .int .i64 0, .int .i64 0, .int .i64 0]) (c1.cs n1 N1 nc1 m1 D1 dc1) rfl rfl (Blk.new _ _ _) rfl Try.sizeC rfl ?_; intro w2 hB hO; have hb := ((Below.refl w1.heap.size w1).alloc (Nat.le_refl _) (.cells #[.int .u64 0, .slice none 0 0, .int .i64 0, .int .i64 0, .int .u64 0, .bool false, .int .i64 0, .string ⟨#[]⟩, .slice none 0 0, .int .i64 0, .int .i64 0, .int .i64 0] 40)).trans (hO.out.below (Nat.le_refl _)); have HRA := Lib.hid (HRA.out.later hb); have HRE := Lib.hid (HRE.out.later hb); have CC := Lib.hid (CC.out.later hb); have B12 := Lib.hid (B12.out.below hb B12.out.lt); have CI1 := Lib.hid (CI1.out.later hb); have B17 := hB; have NB := Lib.hid (bel_trans NB.out (hb)); clear hb hB hO)
    | (go_at_call 14; refine ((HNEW.out A _ HRA).2).mono ?_; rintro e w3 ⟨n2, N2, nc2, m2, D2, dc2, rfl, hi, hb⟩; have HRA := Lib.hid (HRA.out.later hb); have HRE := Lib.hid (HRE.out.later hb); have CC := Lib.hid (CC.out.later hb); have B12 := Lib.hid (B12.out.below hb B12.out.lt); have CI1 := Lib.hid (CI1.out.later hb); have B17 := Lib.hid (B17.out.below hb B17.out.lt); have CI2 := Lib.hid hi; have NB := Lib.hid (bel_trans NB.out (hb)); clear hi hb)
    | (refine wpl_store_blk rfl 40 (.tmp 19) (.tmp 41) rfl (w3.heap.size) 40 (#[.int .u64 0, .slice none 0 0, .int .i64 0, .int .i64 0, .int .u64 0, .bool false, .int .i64 0, .string ⟨#[]⟩, .slice none 0 0, .int .i64 0, .int .i64 0, .int .i64 0]) (c1.cs n2 N2 nc2 m2 D2 dc2) rfl rfl (Blk.new _ _ _) rfl Try.sizeC rfl ?_; intro w4 hB hO; have hb := ((Below.refl w3.heap.size w3).alloc (Nat.le_refl _) (.cells #[.int .u64 0, .slice none 0 0, .int .i64 0, .int .i64 0, .int .u64 0, .bool false, .int .i64 0, .string ⟨#[]⟩, .slice none 0 0, .int .i64 0, .int .i64 0, .int .i64 0] 40)).trans (hO.out.below (Nat.le_refl _)); have HRA := Lib.hid (HRA.out.later hb); have HRE := Lib.hid (HRE.out.later hb); have CC := Lib.hid (CC.out.later hb); have B12 := Lib.hid (B12.out.below hb B12.out.lt); have CI1 := Lib.hid (CI1.out.later hb); have B17 := Lib.hid (B17.out.below hb B17.out.lt); have CI2 := Lib.hid (CI2.out.later hb); have B19 := hB; have NB := Lib.hid (bel_trans NB.out (hb)); clear hb hB hO)
    | (go_at_call 11; refine (HCALL.out _ CC HRE).1.mono ?_; rintro e w5 ⟨n3, N3, nc3, m3, D3, dc3, u3, U3, uc3, rfl, hi, hl, hr, hb⟩; have HRA := Lib.hid (HRA.out.later hb); have HRE := Lib.hid (HRE.out.later hb); have CC := Lib.hid (CC.out.later hb); have B12 := Lib.hid (B12.out.below hb B12.out.lt); have CI1 := Lib.hid (CI1.out.later hb); have B17 := Lib.hid (B17.out.below hb B17.out.lt); have CI2 := Lib.hid (CI2.out.later hb); have B19 := Lib.hid (B19.out.below hb B19.out.lt); have CI3 := Lib.hid hi; have HL3 := Lib.hid hl; have RM3 := Lib.hid hr; have NB := Lib.hid (bel_trans NB.out (hb)); clear hi hl hr hb)
    | (refine wpl_store_blk rfl 40 (.tmp 21) (.tmp 49) rfl (w5.heap.size) 40 (#[.int .u64 0, .slice none 0 0, .int .i64 0, .int .i64 0, .int .u64 0, .bool false, .int .i64 0, .string ⟨#[]⟩, .slice none 0 0, .int .i64 0, .int .i64 0, .int .i64 0]) (c2.cs n3 N3 nc3 m3 D3 dc3) rfl rfl ((Blk.new _ _ _).alloc _) rfl Try.sizeC rfl ?_; intro w6 hB hO; have hb3 := (((Below.refl w5.heap.size w5).alloc (Nat.le_refl _) (.cells #[.int .u64 0, .slice none 0 0, .int .i64 0, .int .i64 0, .int .u64 0, .bool false, .int .i64 0, .string ⟨#[]⟩, .slice none 0 0, .int .i64 0, .int .i64 0, .int .i64 0] 40)).alloc (by simp) (.cells msgZ 38)).trans (hO.out.below (Nat.le_refl _)); have Z3 := Lib.hid (hO.out.blk (blk_second w5 _ _ _) (by omega)); have Y3 := hB; have HB3 := Lib.hid hb3; clear hB hO hb3)
    | (refine wpl_store_blk rfl 38 (.tmp 22) (.tmp 50) rfl (w5.heap.size + 1) 38 msgZ (M.cs u3 U3 uc3) rfl rfl Z3.out rfl Try.sizeM rfl ?_; intro w7 hB hO; have hb := HB3.out.trans (hO.out.below (show w5.heap.size ≤ w5.heap.size + 1 by omega)); have HRA := Lib.hid (HRA.out.later hb); have HRE := Lib.hid (HRE.out.later hb); have CC := Lib.hid (CC.out.later hb); have B12 := Lib.hid (B12.out.below hb B12.out.lt); have CI1 := Lib.hid (CI1.out.later hb); have B17 := Lib.hid (B17.out.below hb B17.out.lt); have CI2 := Lib.hid (CI2.out.later hb); have B19 := Lib.hid (B19.out.below hb B19.out.lt); have CI3 := Lib.hid (CI3.out.later hb); have RM3 := Lib.hid (RM3.out.later hb); have B21 := Lib.hid (hO.out.blk Y3.out (by omega)); have B22 := hB; have NB := Lib.hid (bel_trans NB.out (hb)); clear hb hB hO)
    | (go_at_call 15; refine (HCALL.out _ CC HRE).2.mono ?_; rintro e w8 ⟨n4, N4, nc4, m4, D4, dc4, u4, U4, uc4, rfl, hi, hl, hr, hb⟩; have HRA := Lib.hid (HRA.out.later hb); have HRE := Lib.hid (HRE.out.later hb); have CC := Lib.hid (CC.out.later hb); have B12 := Lib.hid (B12.out.below hb B12.out.lt); have CI1 := Lib.hid (CI1.out.later hb); have B17 := Lib.hid (B17.out.below hb B17.out.lt); have CI2 := Lib.hid (CI2.out.later hb); have B19 := Lib.hid (B19.out.below hb B19.out.lt); have CI3 := Lib.hid (CI3.out.later hb); have RM3 := Lib.hid (RM3.out.later hb); have B21 := Lib.hid (B21.out.below hb B21.out.lt); have B22 := Lib.hid (B22.out.below hb B22.out.lt); have CI4 := Lib.hid hi; have HL4 := Lib.hid hl; have RM4 := Lib.hid hr; have NB := Lib.hid (bel_trans NB.out (hb)); clear hi hl hr hb)
    | (refine wpl_store_blk rfl 40 (.tmp 24) (.tmp 58) rfl (w8.heap.size) 40 (#[.int .u64 0, .slice none 0 0, .int .i64 0, .int .i64 0, .int .u64 0, .bool false, .int .i64 0, .string ⟨#[]⟩, .slice none 0 0, .int .i64 0, .int .i64 0, .int .i64 0]) (c2.cs n4 N4 nc4 m4 D4 dc4) rfl rfl ((Blk.new _ _ _).alloc _) rfl Try.sizeC rfl ?_; intro w9 hB hO; have hb4 := (((Below.refl w8.heap.size w8).alloc (Nat.le_refl _) (.cells #[.int .u64 0, .slice none 0 0, .int .i64 0, .int .i64 0, .int .u64 0, .bool false, .int .i64 0, .string ⟨#[]⟩, .slice none 0 0, .int .i64 0, .int .i64 0, .int .i64 0] 40)).alloc (by simp) (.cells msgZ 38)).trans (hO.out.below (Nat.le_refl _)); have Z4 := Lib.hid (hO.out.blk (blk_second w8 _ _ _) (by omega)); have Y4 := hB; have HB4 := Lib.hid hb4; clear hB hO hb4)
    | (refine wpl_store_blk rfl 38 (.tmp 25) (.tmp 59) rfl (w8.heap.size + 1) 38 msgZ (M.cs u4 U4 uc4) rfl rfl Z4.out rfl Try.sizeM rfl ?_; intro w10 hB hO; have hb := HB4.out.trans (hO.out.below (show w8.heap.size ≤ w8.heap.size + 1 by omega)); have HRA := Lib.hid (HRA.out.later hb); have HRE := Lib.hid (HRE.out.later hb); have CC := Lib.hid (CC.out.later hb); have B12 := Lib.hid (B12.out.below hb B12.out.lt); have CI1 := Lib.hid (CI1.out.later hb); have B17 := Lib.hid (B17.out.below hb B17.out.lt); have CI2 := Lib.hid (CI2.out.later hb); have B19 := Lib.hid (B19.out.below hb B19.out.lt); have CI3 := Lib.hid (CI3.out.later hb); have RM3 := Lib.hid (RM3.out.later hb); have B21 := Lib.hid (B21.out.below hb B21.out.lt); have B22 := Lib.hid (B22.out.below hb B22.out.lt); have CI4 := Lib.hid (CI4.out.later hb); have RM4 := Lib.hid (RM4.out.later hb); have B24 := Lib.hid (hO.out.blk Y4.out (by omega)); have B25 := hB; have NB := Lib.hid (bel_trans NB.out (hb)); clear hb hB hO)
    | (refine wpl_load_blk rfl 40 (.tmp 17) rfl w1.heap.size 40 _ _ rfl B17.out Try.underlying40 rfl Try.sizeC ?_)
    | (refine wpl_load_blk rfl 40 (.tmp 19) rfl w3.heap.size 40 _ _ rfl B19.out Try.underlying40 rfl Try.sizeC ?_)
    | (go_at_call 12; have _t := tk1; obtain ⟨rfl, rfl⟩ := cal_dims CI1.out CI2.out; refine (cal_same c1 n1 N1 nc1 m1 D1 dc1 N2 nc2 D2 dc2 _ CI1 CI2).mono ?_; rintro e w11 ⟨rfl, hb⟩; have CI3 := Lib.hid (CI3.out.later hb); have RM3 := Lib.hid (RM3.out.later hb); have B21 := Lib.hid (B21.out.below hb B21.out.lt); have B22 := Lib.hid (B22.out.below hb B22.out.lt); have CI4 := Lib.hid (CI4.out.later hb); have RM4 := Lib.hid (RM4.out.later hb); have B24 := Lib.hid (B24.out.below hb B24.out.lt); have B25 := Lib.hid (B25.out.below hb B25.out.lt); have NB := Lib.hid (bel_trans NB.out (hb)); clear hb tk1 _t)
    | (refine wpl_load_blk_g ?_ 40 (.tmp 21) ?_ (w5.heap.size) 40 _ _ ?_ B21.out Try.underlying40 rfl Try.sizeC ?_; rfl; rfl; rfl)
    | (refine wpl_load_blk_g ?_ 40 (.tmp 24) ?_ (w8.heap.size) 40 _ _ ?_ B24.out Try.underlying40 rfl Try.sizeC ?_; rfl; rfl; rfl)
    | (go_at_call 12; obtain ⟨rfl, rfl⟩ := cal_dims CI3.out CI4.out; refine (cal_same c2 n3 N3 nc3 m3 D3 dc3 N4 nc4 D4 dc4 _ CI3 CI4).mono ?_; rintro e w12 ⟨rfl, hb⟩; have RM3 := Lib.hid (RM3.out.later hb); have B22 := Lib.hid (B22.out.below hb B22.out.lt); have RM4 := Lib.hid (RM4.out.later hb); have B25 := Lib.hid (B25.out.below hb B25.out.lt); have NB := Lib.hid (bel_trans NB.out (hb)); clear hb)
    | (refine wpl_load_blk_g ?_ 38 (.tmp 22) ?_ (w5.heap.size + 1) 38 _ _ ?_ B22.out Try.underlying38 rfl Try.sizeM ?_; rfl; rfl; rfl)
    | (refine wpl_load_blk_g ?_ 38 (.tmp 25) ?_ (w8.heap.size + 1) 38 _ _ ?_ B25.out Try.underlying38 rfl Try.sizeM ?_; rfl; rfl; rfl)
    | (go_at_call 16; refine (msg_same M u3 U3 uc3 u4 U4 uc4 _ HOK.out HL3.out HL4.out RM3 RM4).mono ?_; rintro e w13 ⟨rfl, hb⟩; have NB := Lib.hid (bel_trans NB.out (hb)); clear hb)
    | (go_at_call 9; refine (heads_true _).mono ?_; rintro e w14 ⟨rfl, hb⟩; have NB := Lib.hid (bel_trans NB.out (hb)); clear hb))
  go_ret
  exact ⟨rfl, NB.out⟩
end Go.Proofs.Ytmamdnikjfmenaa
