/-
  THE REFERENCE: Put and Same of messages. (printed by gen_wirq3.py). (joined out of WirQ3 by shake.py)
-/
import Derived.Test.YtijdbdenmcjmmaaGreatDoorNen27
import Derived.Test.YtijdbdenmcjmmaaGreatDoorNen20
section
namespace Go.Proofs.YtijdbdenmcjmmaaGreatDoor
open Go.RowKit OctMath
set_option linter.unusedVariables false
set_option linter.unusedSimpArgs false
theorem MgIn.later {w w' : World} {m : MG} (h : MgIn w m) (hb : Below w.heap.size w w') : MgIn w' m :=
  ⟨h.ents.later hb, fun e he => let g := h.each e he; ⟨g.r1.later hb, g.r2.later hb, g.r3.later hb, g.ok⟩, h.eq, h.vot.later hb, h.lea.later hb, h.data.later hb, h.names.later hb, h.ok⟩
theorem ls_of {g : Nat} {size n : Nat} {A : Option Addr} {xs : List Value} {ts : List Nat} {B : Nat} {w w' : World} (h : Reads w w.heap.size size A n xs) (hB : B = w.heap.size) (hb : Below B w w') (hP : Pen (fun k => k < B) g ts w') (hg : B ≤ g) : Ls (wMd g) size A n xs w' :=
  ⟨h.later (hB ▸ hb), fun h0 ad e => pen_free hP (by obtain ⟨ad1, e1, h1, -⟩ := h.2 h0; rw [e] at e1; injection e1 with e1; subst e1; rw [hB]; exact h1) (by rw [hB]; exact hb.size) hg⟩
theorem pText_byt {x : List Nat} (h : TxtOk x) : Byt (pText x) := byt_app (putN_byt _) h.1
theorem pMsg_byt {x : MsgT} (h : MsgOk x) : Byt (pMsg x) := by
  unfold pMsg
  have hf := pFlag_byt
  have hh : ∀ y ∈ pHd x.head, y < 256 := byt_app (pId_byt _) (byt_app (putN_byt _) (byt_app (putN_byt _) (byt_app (putN_byt _) (putN_byt _))))
  exact byt_app (putN_byt _) (byt_app (putN_byt _) (byt_app (putN_byt _) (byt_app (putN_byt _) (byt_app (putN_byt _) (byt_app (putN_byt _) (byt_app (putN_byt _) (byt_app (putN_byt _) (byt_app (hf _) (byt_app (hf _) (byt_app (pList_byt fun y hy => pEnt_byt (h.ents.1 y hy)) (byt_app (pConf_byt _) (byt_app hh (byt_app (pText_byt h.data) (byt_app (putN_byt _) (byt_app (putN_byt _) (byt_app (putN_byt _) (byt_app (pText_byt h.key) (byt_app (putN_byt _) (pList_byt fun y hy => pText_byt (h.names.1 y hy))))))))))))))))))))
set_option maxRecDepth 100000 in
set_option maxHeartbeats 8000000 in
theorem rput_msg (m : MG) (w : World) (hI : Hid (MgIn w m)) (hO : Hid (MsgOk m.x)) : Calls Tryz.prog 15 #[.agg (mgCs m)] w (RetO (pMsg m.x) w) := by
  obtain ⟨zs, hzs⟩ : ∃ zs, pMsg m.x = zs := ⟨_, rfl⟩
  have HPF := Lh (fun (g : Nat) (w1 : World) hS hU => pw_fields g [] m w1 hS hU (Lh hI.out.eq) hO (Lh (by show 0 ≤ 1000000000000; omega)))
  rw [List.nil_append, hzs] at HPF
  have HZS := Lh hzs
  rw [hzs]
  clear hzs
  have HI0 := hI
  obtain ⟨x, es, Ae, ce, Av, cv, Al, cl, Ad, cd, An, cn⟩ := m
  have he0 : mgCs ⟨x, es, Ae, ce, Av, cv, Al, cl, Ad, cd, An, cn⟩ = #[.int .i64 x.kind, .int .i64 x.from_, .int .i64 x.to_, .int .u64 (x.term : Int), .int .u64 (x.index : Int), .int .u64 (x.logTerm : Int), .int .u64 (x.commit : Int), .int .u64 (x.ctx : Int), .bool x.okf, .bool x.force, .slice Ae es.length ce, .slice Av x.vot.length cv, .slice Al x.lea.length cl, .int .u64 (x.head.id.ver : Int), .int .i64 x.head.id.idx, .int .u64 (x.head.id.ep : Int), .int .i64 x.head.k, .int .i64 x.head.n, .int .i64 x.head.size, .int .u32 (x.head.sum : Int), .slice Ad x.data.length cd, .int .u64 (x.client : Int), .int .u64 (x.seq : Int), .int .i64 x.op, .string (strOf x.key), .int .i64 x.code, .slice An x.names.length cn] := rfl
  rw [he0] at HPF ⊢
  clear he0
  obtain ⟨w0, ew0⟩ : ∃ w0, w.alloc (.cells #[.int .i64 x.kind, .int .i64 x.from_, .int .i64 x.to_, .int .u64 (x.term : Int), .int .u64 (x.index : Int), .int .u64 (x.logTerm : Int), .int .u64 (x.commit : Int), .int .u64 (x.ctx : Int), .bool x.okf, .bool x.force, .slice Ae es.length ce, .slice Av x.vot.length cv, .slice Al x.lea.length cl, .int .u64 (x.head.id.ver : Int), .int .i64 x.head.id.idx, .int .u64 (x.head.id.ep : Int), .int .i64 x.head.k, .int .i64 x.head.n, .int .i64 x.head.size, .int .u32 (x.head.sum : Int), .slice Ad x.data.length cd, .int .u64 (x.client : Int), .int .u64 (x.seq : Int), .int .i64 x.op, .string (strOf x.key), .int .i64 x.code, .slice An x.names.length cn] 38) = w0 := ⟨_, rfl⟩
  have hb : Below w.heap.size w (w.alloc (.cells #[.int .i64 x.kind, .int .i64 x.from_, .int .i64 x.to_, .int .u64 (x.term : Int), .int .u64 (x.index : Int), .int .u64 (x.logTerm : Int), .int .u64 (x.commit : Int), .int .u64 (x.ctx : Int), .bool x.okf, .bool x.force, .slice Ae es.length ce, .slice Av x.vot.length cv, .slice Al x.lea.length cl, .int .u64 (x.head.id.ver : Int), .int .i64 x.head.id.idx, .int .u64 (x.head.id.ep : Int), .int .i64 x.head.k, .int .i64 x.head.n, .int .i64 x.head.size, .int .u32 (x.head.sum : Int), .slice Ad x.data.length cd, .int .u64 (x.client : Int), .int .u64 (x.seq : Int), .int .i64 x.op, .string (strOf x.key), .int .i64 x.code, .slice An x.names.length cn] 38)) := (Below.refl _ _).alloc (Nat.le_refl _) _
  have hx : Blk (w.alloc (.cells #[.int .i64 x.kind, .int .i64 x.from_, .int .i64 x.to_, .int .u64 (x.term : Int), .int .u64 (x.index : Int), .int .u64 (x.logTerm : Int), .int .u64 (x.commit : Int), .int .u64 (x.ctx : Int), .bool x.okf, .bool x.force, .slice Ae es.length ce, .slice Av x.vot.length cv, .slice Al x.lea.length cl, .int .u64 (x.head.id.ver : Int), .int .i64 x.head.id.idx, .int .u64 (x.head.id.ep : Int), .int .i64 x.head.k, .int .i64 x.head.n, .int .i64 x.head.size, .int .u32 (x.head.sum : Int), .slice Ad x.data.length cd, .int .u64 (x.client : Int), .int .u64 (x.seq : Int), .int .i64 x.op, .string (strOf x.key), .int .i64 x.code, .slice An x.names.length cn] 38)) w.heap.size 38 #[.int .i64 x.kind, .int .i64 x.from_, .int .i64 x.to_, .int .u64 (x.term : Int), .int .u64 (x.index : Int), .int .u64 (x.logTerm : Int), .int .u64 (x.commit : Int), .int .u64 (x.ctx : Int), .bool x.okf, .bool x.force, .slice Ae es.length ce, .slice Av x.vot.length cv, .slice Al x.lea.length cl, .int .u64 (x.head.id.ver : Int), .int .i64 x.head.id.idx, .int .u64 (x.head.id.ep : Int), .int .i64 x.head.k, .int .i64 x.head.n, .int .i64 x.head.size, .int .u32 (x.head.sum : Int), .slice Ad x.data.length cd, .int .u64 (x.client : Int), .int .u64 (x.seq : Int), .int .i64 x.op, .string (strOf x.key), .int .i64 x.code, .slice An x.names.length cn] := Blk.new w _ _
  rw [ew0] at hb hx
  have HB0 := Lh hb
  have HX0 := Lh hx
  clear hb hx
  go_enter Tryz.func15, Tryz.ntmps15
  go_wp2_with (rw [ew0])
  refine (pen_writer none 0 0 [] _ Reads.none_ (by omega)).mono ?_
  rintro en w1 ⟨g, rfl, hg, hb, hp⟩
  have HB4 := Lh (HB0.out.trans (hb.mono HB0.out.size))
  have HP1 := Lh (hp.mono (H' := fun k => k < w.heap.size) (fun k hk => .inl (Nat.lt_of_lt_of_le hk HB0.out.size)))
  have HGE := Lh (show w.heap.size ≤ g from Nat.le_trans HB0.out.size hg)
  have HX1 := Lh (HX0.out.below hb HX0.out.lt)
  have HEMS : EmsL g w1.heap.size es w1 := fun e he => by
    have q := HI0.out.each e he
    have l1 := ls_of q.r1 rfl HB4.out HP1.out HGE.out
    have l2 := ls_of q.r2 rfl HB4.out HP1.out HGE.out
    have l3 := ls_of q.r3 rfl HB4.out HP1.out HGE.out
    exact ⟨l1, fun h0 ad e => (l1.free h0 ad e).lt, l2, fun h0 ad e => (l2.free h0 ad e).lt, l3, fun h0 ad e => (l3.free h0 ad e).lt⟩
  have HU : Hid (MgL g w1.heap.size ⟨x, es, Ae, ce, Av, cv, Al, cl, Ad, cd, An, cn⟩ w1) := Lh ⟨ls_of HI0.out.ents rfl HB4.out HP1.out HGE.out, HEMS, ls_of HI0.out.vot rfl HB4.out HP1.out HGE.out, ls_of HI0.out.lea rfl HB4.out HP1.out HGE.out, ls_of HI0.out.data rfl HB4.out HP1.out HGE.out, ls_of HI0.out.names rfl HB4.out HP1.out HGE.out⟩
  clear hg hb hp ew0 HEMS
  go_wp2_with (first
    | (refine wpl_load_blk rfl 38 (.tmp 1) rfl w.heap.size 38 _ _ rfl HX1.out Tryz.underlying38 rfl sizeMsg ?_)
    | (go_at_call 40; refine (HPF.out g w1 (Lh (HP1.out.mono (fun _ h => h.elim))) HU).mono ?_; rintro en w2 ⟨⟨vf, rfl⟩, hs, hk⟩
       have hs : Pen (fun _ => False) g zs w2 := hs
       have HK := Lh hk
       have HS := Lh hs
       clear hs hk)
    | (go_at_call 41; refine (pen_written _ g zs w2 HS.out).mono ?_; rintro en w3 ⟨⟨A9, c9, rfl, hr⟩, rfl⟩; have HR := Lh hr; clear hr))
  go_ret
  exact ⟨_, _, rfl, HR.out, HB4.out.trans (stp_below HK.out HB4.out.size (fun k hk => (pen_free HP1.out hk HB4.out.size HGE.out).wr))⟩
set_option maxRecDepth 100000 in
set_option maxHeartbeats 8000000 in
theorem rsame_msg (a b : MG) (w : World) (hA : Hid (MgIn w a)) (hAO : Hid (MsgOk a.x)) (hB : Hid (MgIn w b)) (hBO : Hid (MsgOk b.x)) : Calls Tryz.prog 11 #[.agg (mgCs a), .agg (mgCs b)] w (fun e w' => e = .returned (.bool (decide (pMsg a.x = pMsg b.x))) ∧ Below w.heap.size w w') := by
  have HP1 := Lh (fun W k => rput_msg a W k hAO)
  have HP2 := Lh (fun W k => rput_msg b W k hBO)
  have hby1 : Byt (pMsg a.x) := pMsg_byt hAO.out
  have hby2 : Byt (pMsg b.x) := pMsg_byt hBO.out
  obtain ⟨ys, hys⟩ : ∃ ys, pMsg a.x = ys := ⟨_, rfl⟩
  obtain ⟨zs, hzs⟩ : ∃ zs, pMsg b.x = zs := ⟨_, rfl⟩
  rw [hys] at HP1 hby1 ⊢
  rw [hzs] at HP2 hby2 ⊢
  have H3 := Lh (show ((strOf ys).toList == (strOf zs).toList) = decide (ys = zs) from strOf_beq hby1 hby2)
  clear hys hzs hAO hBO hby1 hby2
  obtain ⟨x1, es1, Ae1, ce1, Av1, cv1, Al1, cl1, Ad1, cd1, An1, cn1⟩ := a
  obtain ⟨x2, es2, Ae2, ce2, Av2, cv2, Al2, cl2, Ad2, cd2, An2, cn2⟩ := b
  have he1 : mgCs ⟨x1, es1, Ae1, ce1, Av1, cv1, Al1, cl1, Ad1, cd1, An1, cn1⟩ = #[.int .i64 x1.kind, .int .i64 x1.from_, .int .i64 x1.to_, .int .u64 (x1.term : Int), .int .u64 (x1.index : Int), .int .u64 (x1.logTerm : Int), .int .u64 (x1.commit : Int), .int .u64 (x1.ctx : Int), .bool x1.okf, .bool x1.force, .slice Ae1 es1.length ce1, .slice Av1 x1.vot.length cv1, .slice Al1 x1.lea.length cl1, .int .u64 (x1.head.id.ver : Int), .int .i64 x1.head.id.idx, .int .u64 (x1.head.id.ep : Int), .int .i64 x1.head.k, .int .i64 x1.head.n, .int .i64 x1.head.size, .int .u32 (x1.head.sum : Int), .slice Ad1 x1.data.length cd1, .int .u64 (x1.client : Int), .int .u64 (x1.seq : Int), .int .i64 x1.op, .string (strOf x1.key), .int .i64 x1.code, .slice An1 x1.names.length cn1] := rfl
  have he2 : mgCs ⟨x2, es2, Ae2, ce2, Av2, cv2, Al2, cl2, Ad2, cd2, An2, cn2⟩ = #[.int .i64 x2.kind, .int .i64 x2.from_, .int .i64 x2.to_, .int .u64 (x2.term : Int), .int .u64 (x2.index : Int), .int .u64 (x2.logTerm : Int), .int .u64 (x2.commit : Int), .int .u64 (x2.ctx : Int), .bool x2.okf, .bool x2.force, .slice Ae2 es2.length ce2, .slice Av2 x2.vot.length cv2, .slice Al2 x2.lea.length cl2, .int .u64 (x2.head.id.ver : Int), .int .i64 x2.head.id.idx, .int .u64 (x2.head.id.ep : Int), .int .i64 x2.head.k, .int .i64 x2.head.n, .int .i64 x2.head.size, .int .u32 (x2.head.sum : Int), .slice Ad2 x2.data.length cd2, .int .u64 (x2.client : Int), .int .u64 (x2.seq : Int), .int .i64 x2.op, .string (strOf x2.key), .int .i64 x2.code, .slice An2 x2.names.length cn2] := rfl
  rw [he1] at HP1 ⊢
  rw [he2] at HP2 ⊢
  clear he1 he2
  have b1 := Lh ((Blk.new w 38 #[.int .i64 x1.kind, .int .i64 x1.from_, .int .i64 x1.to_, .int .u64 (x1.term : Int), .int .u64 (x1.index : Int), .int .u64 (x1.logTerm : Int), .int .u64 (x1.commit : Int), .int .u64 (x1.ctx : Int), .bool x1.okf, .bool x1.force, .slice Ae1 es1.length ce1, .slice Av1 x1.vot.length cv1, .slice Al1 x1.lea.length cl1, .int .u64 (x1.head.id.ver : Int), .int .i64 x1.head.id.idx, .int .u64 (x1.head.id.ep : Int), .int .i64 x1.head.k, .int .i64 x1.head.n, .int .i64 x1.head.size, .int .u32 (x1.head.sum : Int), .slice Ad1 x1.data.length cd1, .int .u64 (x1.client : Int), .int .u64 (x1.seq : Int), .int .i64 x1.op, .string (strOf x1.key), .int .i64 x1.code, .slice An1 x1.names.length cn1]).alloc (.cells #[.int .i64 x2.kind, .int .i64 x2.from_, .int .i64 x2.to_, .int .u64 (x2.term : Int), .int .u64 (x2.index : Int), .int .u64 (x2.logTerm : Int), .int .u64 (x2.commit : Int), .int .u64 (x2.ctx : Int), .bool x2.okf, .bool x2.force, .slice Ae2 es2.length ce2, .slice Av2 x2.vot.length cv2, .slice Al2 x2.lea.length cl2, .int .u64 (x2.head.id.ver : Int), .int .i64 x2.head.id.idx, .int .u64 (x2.head.id.ep : Int), .int .i64 x2.head.k, .int .i64 x2.head.n, .int .i64 x2.head.size, .int .u32 (x2.head.sum : Int), .slice Ad2 x2.data.length cd2, .int .u64 (x2.client : Int), .int .u64 (x2.seq : Int), .int .i64 x2.op, .string (strOf x2.key), .int .i64 x2.code, .slice An2 x2.names.length cn2] 38))
  have b2 := Lh (Blk.new (w.alloc (.cells #[.int .i64 x1.kind, .int .i64 x1.from_, .int .i64 x1.to_, .int .u64 (x1.term : Int), .int .u64 (x1.index : Int), .int .u64 (x1.logTerm : Int), .int .u64 (x1.commit : Int), .int .u64 (x1.ctx : Int), .bool x1.okf, .bool x1.force, .slice Ae1 es1.length ce1, .slice Av1 x1.vot.length cv1, .slice Al1 x1.lea.length cl1, .int .u64 (x1.head.id.ver : Int), .int .i64 x1.head.id.idx, .int .u64 (x1.head.id.ep : Int), .int .i64 x1.head.k, .int .i64 x1.head.n, .int .i64 x1.head.size, .int .u32 (x1.head.sum : Int), .slice Ad1 x1.data.length cd1, .int .u64 (x1.client : Int), .int .u64 (x1.seq : Int), .int .i64 x1.op, .string (strOf x1.key), .int .i64 x1.code, .slice An1 x1.names.length cn1] 38)) 38 #[.int .i64 x2.kind, .int .i64 x2.from_, .int .i64 x2.to_, .int .u64 (x2.term : Int), .int .u64 (x2.index : Int), .int .u64 (x2.logTerm : Int), .int .u64 (x2.commit : Int), .int .u64 (x2.ctx : Int), .bool x2.okf, .bool x2.force, .slice Ae2 es2.length ce2, .slice Av2 x2.vot.length cv2, .slice Al2 x2.lea.length cl2, .int .u64 (x2.head.id.ver : Int), .int .i64 x2.head.id.idx, .int .u64 (x2.head.id.ep : Int), .int .i64 x2.head.k, .int .i64 x2.head.n, .int .i64 x2.head.size, .int .u32 (x2.head.sum : Int), .slice Ad2 x2.data.length cd2, .int .u64 (x2.client : Int), .int .u64 (x2.seq : Int), .int .i64 x2.op, .string (strOf x2.key), .int .i64 x2.code, .slice An2 x2.names.length cn2])
  have n1 := Lh (((Below.refl w.heap.size w).alloc (Nat.le_refl _) (.cells #[.int .i64 x1.kind, .int .i64 x1.from_, .int .i64 x1.to_, .int .u64 (x1.term : Int), .int .u64 (x1.index : Int), .int .u64 (x1.logTerm : Int), .int .u64 (x1.commit : Int), .int .u64 (x1.ctx : Int), .bool x1.okf, .bool x1.force, .slice Ae1 es1.length ce1, .slice Av1 x1.vot.length cv1, .slice Al1 x1.lea.length cl1, .int .u64 (x1.head.id.ver : Int), .int .i64 x1.head.id.idx, .int .u64 (x1.head.id.ep : Int), .int .i64 x1.head.k, .int .i64 x1.head.n, .int .i64 x1.head.size, .int .u32 (x1.head.sum : Int), .slice Ad1 x1.data.length cd1, .int .u64 (x1.client : Int), .int .u64 (x1.seq : Int), .int .i64 x1.op, .string (strOf x1.key), .int .i64 x1.code, .slice An1 x1.names.length cn1] 38)).alloc (by simp) (.cells #[.int .i64 x2.kind, .int .i64 x2.from_, .int .i64 x2.to_, .int .u64 (x2.term : Int), .int .u64 (x2.index : Int), .int .u64 (x2.logTerm : Int), .int .u64 (x2.commit : Int), .int .u64 (x2.ctx : Int), .bool x2.okf, .bool x2.force, .slice Ae2 es2.length ce2, .slice Av2 x2.vot.length cv2, .slice Al2 x2.lea.length cl2, .int .u64 (x2.head.id.ver : Int), .int .i64 x2.head.id.idx, .int .u64 (x2.head.id.ep : Int), .int .i64 x2.head.k, .int .i64 x2.head.n, .int .i64 x2.head.size, .int .u32 (x2.head.sum : Int), .slice Ad2 x2.data.length cd2, .int .u64 (x2.client : Int), .int .u64 (x2.seq : Int), .int .i64 x2.op, .string (strOf x2.key), .int .i64 x2.code, .slice An2 x2.names.length cn2] 38))
  have es : (w.alloc (.cells #[.int .i64 x1.kind, .int .i64 x1.from_, .int .i64 x1.to_, .int .u64 (x1.term : Int), .int .u64 (x1.index : Int), .int .u64 (x1.logTerm : Int), .int .u64 (x1.commit : Int), .int .u64 (x1.ctx : Int), .bool x1.okf, .bool x1.force, .slice Ae1 es1.length ce1, .slice Av1 x1.vot.length cv1, .slice Al1 x1.lea.length cl1, .int .u64 (x1.head.id.ver : Int), .int .i64 x1.head.id.idx, .int .u64 (x1.head.id.ep : Int), .int .i64 x1.head.k, .int .i64 x1.head.n, .int .i64 x1.head.size, .int .u32 (x1.head.sum : Int), .slice Ad1 x1.data.length cd1, .int .u64 (x1.client : Int), .int .u64 (x1.seq : Int), .int .i64 x1.op, .string (strOf x1.key), .int .i64 x1.code, .slice An1 x1.names.length cn1] 38)).heap.size = w.heap.size + 1 := by simp
  rw [es] at b2
  go_enter Tryz.func11, Tryz.ntmps11
  go_wp2
  obtain ⟨W, hW⟩ : ∃ W, (w.alloc (.cells #[.int .i64 x1.kind, .int .i64 x1.from_, .int .i64 x1.to_, .int .u64 (x1.term : Int), .int .u64 (x1.index : Int), .int .u64 (x1.logTerm : Int), .int .u64 (x1.commit : Int), .int .u64 (x1.ctx : Int), .bool x1.okf, .bool x1.force, .slice Ae1 es1.length ce1, .slice Av1 x1.vot.length cv1, .slice Al1 x1.lea.length cl1, .int .u64 (x1.head.id.ver : Int), .int .i64 x1.head.id.idx, .int .u64 (x1.head.id.ep : Int), .int .i64 x1.head.k, .int .i64 x1.head.n, .int .i64 x1.head.size, .int .u32 (x1.head.sum : Int), .slice Ad1 x1.data.length cd1, .int .u64 (x1.client : Int), .int .u64 (x1.seq : Int), .int .i64 x1.op, .string (strOf x1.key), .int .i64 x1.code, .slice An1 x1.names.length cn1] 38)).alloc (.cells #[.int .i64 x2.kind, .int .i64 x2.from_, .int .i64 x2.to_, .int .u64 (x2.term : Int), .int .u64 (x2.index : Int), .int .u64 (x2.logTerm : Int), .int .u64 (x2.commit : Int), .int .u64 (x2.ctx : Int), .bool x2.okf, .bool x2.force, .slice Ae2 es2.length ce2, .slice Av2 x2.vot.length cv2, .slice Al2 x2.lea.length cl2, .int .u64 (x2.head.id.ver : Int), .int .i64 x2.head.id.idx, .int .u64 (x2.head.id.ep : Int), .int .i64 x2.head.k, .int .i64 x2.head.n, .int .i64 x2.head.size, .int .u32 (x2.head.sum : Int), .slice Ad2 x2.data.length cd2, .int .u64 (x2.client : Int), .int .u64 (x2.seq : Int), .int .i64 x2.op, .string (strOf x2.key), .int .i64 x2.code, .slice An2 x2.names.length cn2] 38) = W := ⟨_, rfl⟩
  rw [hW] at b1 b2 n1 ⊢
  clear hW es
  obtain ⟨c1, e1⟩ : ∃ c : Array Value, #[.int .i64 x1.kind, .int .i64 x1.from_, .int .i64 x1.to_, .int .u64 (x1.term : Int), .int .u64 (x1.index : Int), .int .u64 (x1.logTerm : Int), .int .u64 (x1.commit : Int), .int .u64 (x1.ctx : Int), .bool x1.okf, .bool x1.force, .slice Ae1 es1.length ce1, .slice Av1 x1.vot.length cv1, .slice Al1 x1.lea.length cl1, .int .u64 (x1.head.id.ver : Int), .int .i64 x1.head.id.idx, .int .u64 (x1.head.id.ep : Int), .int .i64 x1.head.k, .int .i64 x1.head.n, .int .i64 x1.head.size, .int .u32 (x1.head.sum : Int), .slice Ad1 x1.data.length cd1, .int .u64 (x1.client : Int), .int .u64 (x1.seq : Int), .int .i64 x1.op, .string (strOf x1.key), .int .i64 x1.code, .slice An1 x1.names.length cn1] = c := ⟨_, rfl⟩
  have z1 : c1.size = 27 := by rw [← e1]; rfl
  rw [e1] at b1 HP1
  obtain ⟨c2, e2⟩ : ∃ c : Array Value, #[.int .i64 x2.kind, .int .i64 x2.from_, .int .i64 x2.to_, .int .u64 (x2.term : Int), .int .u64 (x2.index : Int), .int .u64 (x2.logTerm : Int), .int .u64 (x2.commit : Int), .int .u64 (x2.ctx : Int), .bool x2.okf, .bool x2.force, .slice Ae2 es2.length ce2, .slice Av2 x2.vot.length cv2, .slice Al2 x2.lea.length cl2, .int .u64 (x2.head.id.ver : Int), .int .i64 x2.head.id.idx, .int .u64 (x2.head.id.ep : Int), .int .i64 x2.head.k, .int .i64 x2.head.n, .int .i64 x2.head.size, .int .u32 (x2.head.sum : Int), .slice Ad2 x2.data.length cd2, .int .u64 (x2.client : Int), .int .u64 (x2.seq : Int), .int .i64 x2.op, .string (strOf x2.key), .int .i64 x2.code, .slice An2 x2.names.length cn2] = c := ⟨_, rfl⟩
  have z2 : c2.size = 27 := by rw [← e2]; rfl
  rw [e2] at b2 HP2
  clear e1 e2
  refine wp_region_late (S0 := fun _ => True) (S := fun w' => Blk w' w.heap.size 38 c1 ∧ Blk w' (w.heap.size + 1) 38 c2) 7 8 (by kernel_rfl) rfl ⟨trivial, b1.out.drew, b2.out.drew⟩ (fun wd hwd hH => ?_)
  have nd := Lh (show Below w.heap.size w wd from by rw [hwd]; exact n1.out.drew)
  clear hwd b1 b2 n1
  refine wpAnyT_take 0 rfl (by kernel_rfl) (fun _ _ _ h => h) (yields_load_blk rfl 38 (.tmp 2) rfl w.heap.size 38 c1 _ rfl (fun w' hw' => hw'.1) Tryz.underlying38 rfl (by rw [z1]; exact sizeMsg)) hH ?_
  try simp only [Act.put, pA9, pZ9, pS9]
  refine wpAnyT_take 3 rfl (by kernel_rfl) (fun _ _ _ h => h) (yields_load_blk rfl 38 (.tmp 3) rfl (w.heap.size + 1) 38 c2 _ rfl (fun w' hw' => hw'.2) Tryz.underlying38 rfl (by rw [z2]; exact sizeMsg)) hH ?_
  try simp only [Act.put, pA9, pZ9, pS9]
  refine wpAnyT_one 1 rfl (by kernel_rfl) (fun K hQ => ?_)
  go_simp
  (go_at_call 15; refine (HP1.out _ (Lh (hA.out.later nd.out))).mono ?_; rintro e w1 ⟨A7, cap1, rfl, r1, hb⟩; have R1 := Lh r1; have HB1 := Lh hb; clear r1 hb)
  refine hQ.out _ _ ⟨trivial, hH.2.1.below HB1.out hH.2.1.lt, hH.2.2.below HB1.out hH.2.2.lt⟩ (fun hH1 => ?_)
  clear hQ K
  try simp only [Act.put, pA9, pZ9, pS9]
  refine wpAnyT_mono (S0' := fun w' => Reads w' w'.heap.size 1 A7 ys.length (ys.map bv)) (S' := fun w' => Blk w' w.heap.size 38 c1 ∧ Blk w' (w.heap.size + 1) 38 c2) (fun _ _ => trivial) (fun _ h => h) _ _ _ _ ?_
  refine tT 2 rfl ?_ ⟨R1.out, fun _ => hH1.2⟩ ?_ ?_
  rotate_left
  · (intro wx hx; have kc := run_conv_bytes (P := Tryz.prog) (src := 33) (dst := 9) (cap := cap1) Tryz.underlying33 Tryz.underlying5 Tryz.underlying9 hx; go_simp <;> with_reducible rfl)
  try simp only [Act.put, pA9, pZ9, pS9]
  refine wpAnyT_one 4 rfl (by kernel_rfl) (fun K hQ => ?_)
  go_simp
  (go_at_call 15; refine (HP2.out _ (Lh (hB.out.later (nd.out.trans (HB1.out.mono nd.out.size))))).mono ?_; rintro e w2 ⟨A8, cap2, rfl, r2, hb⟩; have R2 := Lh r2; have HB2 := Lh hb; clear r2 hb)
  refine hQ.out _ _ ⟨R1.out.later HB2.out, hH1.2.1.below HB2.out hH1.2.1.lt, hH1.2.2.below HB2.out hH1.2.2.lt⟩ (fun hH2 => ?_)
  clear hQ K
  try simp only [Act.put, pA9, pZ9, pS9]
  refine wpAnyT_mono (S0' := fun w' => Reads w' w'.heap.size 1 A8 zs.length (zs.map bv) ∧ Reads w' w'.heap.size 1 A7 ys.length (ys.map bv)) (S' := fun w' => Blk w' w.heap.size 38 c1 ∧ Blk w' (w.heap.size + 1) 38 c2) (fun _ h => h.2) (fun _ h => h) _ _ _ _ ?_
  refine tT 5 rfl ?_ ⟨⟨R2.out, hH2.1⟩, fun _ => hH2.2⟩ ?_ ?_
  rotate_left
  · (intro wx hx; have kc := run_conv_bytes (P := Tryz.prog) (src := 33) (dst := 9) (cap := cap2) Tryz.underlying33 Tryz.underlying5 Tryz.underlying9 hx.1; go_simp <;> with_reducible rfl)
  try simp only [Act.put, pA9, pZ9, pS9]
  refine tT 6 rfl ?_ ⟨⟨R2.out, hH2.1⟩, fun _ => hH2.2⟩ ?_ ?_
  rotate_left
  · (intro wx hx; have h3 := H3.out; go_simp <;> with_reducible rfl)
  try simp only [Act.put, pA9, pZ9, pS9]
  refine wpAnyT_last 7 rfl (by kernel_rfl) (by decide) (fun K hQ => ?_)
  go_simp
  refine hQ.out _ _ ⟨R2.out, hH2.1⟩ (fun hH7 => ?_)
  clear hQ K
  try simp only [Act.put, pA9, pZ9, pS9]
  refine wpAnyT_done (by kernel_rfl) ?_ _
  clear hH hH1 hH2 hH7
  go_wp2
  go_ret
  exact ⟨rfl, (nd.out.trans (HB1.out.mono nd.out.size)).trans (HB2.out.mono (Nat.le_trans nd.out.size HB1.out.size))⟩
end Go.Proofs.YtijdbdenmcjmmaaGreatDoor
end
