/- THE MACHINE: a session is asked. (printed by gen_meh7.py); THE MACHINE: objects that are removed. (printed by gen_meh8.py); PLAIN LAWS of straws: loga -/
import Derived.Laws.BitsAllLaws
import Derived.Test.YtdoneomahlfkbaaGreatOnc12
import Derived.Test.YtdoneomahlfkbaaGreatOnc01
set_option linter.unusedVariables false
set_option linter.unusedSimpArgs false
set_option maxRecDepth 100000
set_option maxHeartbeats 8000000
section
namespace Go.Proofs.YtdoneomahlfkbaaGreat
open Go.RowKit OctMath
theorem ask_ok_any (G:List Nat) (g:Nat) (m:MM) (c:CmdT) (CA:Option Addr) (cc:Nat) (w:World) (hM:Hid (MS G g m w)) (hkl:c.key.length≤9223372036854775807) (hbd:askBad c=false) (hRW:Hid (Ris wasO (fun x=>x) m.x.wass)) (hRI:Hid (Ris natO verI m.x.ints)) (hRS:Hid (Ris natO SesT.client m.x.sess)) (hnd:Hid (∀x ∈ m.x.ints,x.obj.nodes.length≤255)) (hl:m.x.wass.length+255≤33554432) :
 Calls Tryz.prog 50 #[.pointer (some ⟨g,0,none⟩),.agg (cmdCs c CA cc)] w (RetAsk G g m.x c w):=by
 have HBD:=Lh hbd
 obtain⟨cs,ecs⟩:∃cs,cmdCs c CA cc=cs:=⟨_,rfl⟩
 have V0:=Lh (show cs[0]?=some (.int .i64 c.kind) from by rw [← ecs];rfl)
 have V1:=Lh (show cs[1]?=some (.int .u64 (c.client:Int)) from by rw [← ecs];rfl)
 have V2:=Lh (show cs[2]?=some (.int .u64 (c.seq:Int)) from by rw [← ecs];rfl)
 have V3:=Lh (show cs[3]?=some (.string (strOf c.key)) from by rw [← ecs];rfl)
 have V4:=Lh (show cs[4]?=some (.int .i64 c.size) from by rw [← ecs];rfl)
 have V5:=Lh (show cs[5]?=some (.int .u32 (c.sum:Int)) from by rw [← ecs];rfl)
 have V6:=Lh (show cs[6]?=some (.int .u64 (c.version:Int)) from by rw [← ecs];rfl)
 have V7:=Lh (show cs[7]?=some (.int .u64 (c.epoch:Int)) from by rw [← ecs];rfl)
 have V8:=Lh (show cs[8]?=some (.int .i64 c.group) from by rw [← ecs];rfl)
 have V9:=Lh (show cs[9]?=some (.int .i64 c.node) from by rw [← ecs];rfl)
 have V10:=Lh (show cs[10]?=some (.bool c.up) from by rw [← ecs];rfl)
 have V11:=Lh (show cs[11]?=some (.int .u64 (c.id.ver:Int)) from by rw [← ecs];rfl)
 have V12:=Lh (show cs[12]?=some (.int .i64 c.id.idx) from by rw [← ecs];rfl)
 have V13:=Lh (show cs[13]?=some (.int .u64 (c.id.ep:Int)) from by rw [← ecs];rfl)
 have V14:=Lh (show cs[14]?=some (.int .u64 (c.mep:Int)) from by rw [← ecs];rfl)
 have V15:=Lh (show cs[15]?=some (.slice CA c.mem.length cc) from by rw [← ecs];rfl)
 have HCS:=Lh (show cs.size=16 from by rw [← ecs];rfl)
 have HCO:=Lh (show cs.toList.all (·.oneCell')=true from by rw [← ecs];rfl)
 rw [ecs]
 have ECS:=Lh ecs
 clear ecs
 have HGL:=Lh hM.out.blk.lt
 go_enter Tryz.func50,Tryz.ntmps50
 go_upto_region 1 with (fail)
 obtain⟨w1,ew1⟩:∃w1,(w.alloc (.cells cs 48)).alloc (.cells rZ 39)=w1:=⟨_,rfl⟩
 have hb0:Below w.heap.size w ((w.alloc (.cells cs 48)).alloc (.cells rZ 39)):=((Below.refl _ _).alloc (Nat.le_refl _) _).alloc (by simp) _
 have hB:=(Blk.new w 48 cs).alloc (.cells rZ 39)
 have hR:=Blk.new (w.alloc (.cells cs 48)) 39 rZ
 have hs1:(w.alloc (.cells cs 48)).heap.size=w.heap.size+1:=by simp
 rw [hs1] at hR
 rw [ew1] at hb0 hB hR
 have ew1':(w.alloc (.cells cs 48)).alloc (.cells #[.int .i64 0,.int .u64 0,.slice none 0 0,.int .u64 0] 39)=w1:=ew1
 rw [ew1']
 have HB0:=Lh hb0
 have HB:=Lh hB
 have HRB:=Lh hR
 have HM1:=Lh (hM.out.add hb0 (k:=w.heap.size+1) (by omega) hR.lt)
 have HGG:=Lh hM.out.mem
 clear hb0 hB hR hs1 ew1 ew1' hM
 obtain⟨b0,e0⟩:∃b0,w.heap.size=b0:=⟨_,rfl⟩
 have E0:=Lh e0
 rw [e0] at HB HRB HGL HM1 ⊢
 clear e0
 obtain⟨GG,eGG⟩:∃GG,(b0+1) :: G=GG:=⟨_,rfl⟩
 have EGG:=Lh eGG
 rw [eGG] at HM1
 clear eGG
 have c0:w1.cell? ⟨b0,0,none⟩=some (.int .i64 c.kind):=(HB.out.cell 0).trans V0.out
 have c1:w1.cell? ⟨b0,1,none⟩=some (.int .u64 (c.client:Int)):=(HB.out.cell 1).trans V1.out
 have c2:w1.cell? ⟨b0,2,none⟩=some (.int .u64 (c.seq:Int)):=(HB.out.cell 2).trans V2.out
 have c3:w1.cell? ⟨b0,3,none⟩=some (.string (strOf c.key)):=(HB.out.cell 3).trans V3.out
 have c4:w1.cell? ⟨b0,4,none⟩=some (.int .i64 c.size):=(HB.out.cell 4).trans V4.out
 obtain⟨k1,ek⟩:∃b,(c.kind != 1)=b:=⟨_,rfl⟩
 obtain⟨s0,es0⟩:∃b,decide (0≤c.size)=b:=⟨_,rfl⟩
 obtain⟨s1,es1⟩:∃b,decide (c.size≤65536)=b:=⟨_,rfl⟩
 obtain⟨a1,e1⟩:∃b,decide (c.client<1)=b:=⟨_,rfl⟩
 obtain⟨a2,e2⟩:∃b,decide (64<c.client)=b:=⟨_,rfl⟩
 obtain⟨a3,e3⟩:∃b,decide (c.seq=0)=b:=⟨_,rfl⟩
 obtain⟨a4,e4⟩:∃b,decide (c.key=[])=b:=⟨_,rfl⟩
 obtain⟨a5,e5⟩:∃b,decide (64<c.key.length)=b:=⟨_,rfl⟩
 have hbad:=askBad_eq (s:=strOf c.key) ⟨ek,es0,es1,e1,e2,e3,e4,e5⟩
 rw [hbd] at hbad
 have HBAD:=Lh hbad
 have f0:(c.kind == 1) = !k1:=by rw [← ek,bne];cases (c.kind == 1) <;> rfl
 have f0b:decide (c.size≥0)=s0:=es0
 have f1:decide ((c.client:Int)<1)=a1:=by rw [← e1,decide_eq_decide];omega
 have f1b:decide (c.client=0)=a1:=by rw [← e1,decide_eq_decide];omega
 have f2:decide ((c.client:Int)>64)=a2:=by rw [← e2,decide_eq_decide];omega
 have f2b:decide (64<(c.client:Int))=a2:=by rw [← e2,decide_eq_decide];omega
 have f3:((c.seq:Int) == 0)=a3:=by rw [← e3];by_cases h:c.seq=0 <;> simp [h]
 have f3b:(c.seq == 0)=a3:=by rw [← e3];by_cases h:c.seq=0 <;> simp [h]
 have f3c:decide ((c.seq:Int)=0)=a3:=by rw [← e3,decide_eq_decide];omega
 have f4:((strOf c.key).toList == [])=a4:=by rw [← e4];exact strOf_nil c.key
 have f4b:(strOf c.key).toList.isEmpty=a4:=by rw [← f4];cases (strOf c.key).toList <;> rfl
 have f5:decide (((strOf c.key).size:Int)>64)=a5:=by rw [← e5,decide_eq_decide,strOf_len];omega
 have f5b:decide (64<((strOf c.key).size:Int))=a5:=by rw [← e5,decide_eq_decide,strOf_len];omega
 have f5c:decide (64<(strOf c.key).size)=a5:=by rw [← e5,decide_eq_decide,strOf_len]
 have hszm:(strOf c.key).size≤9223372036854775807:=by rw [strOf_len];exact hkl
 clear hbad
 obtain⟨s,es⟩:∃s,strOf c.key=s:=⟨_,rfl⟩
 rw [es] at V3 f4 f4b f5 f5b f5c hszm c3
 clear es
 obtain⟨cl,ecl⟩:∃cl:Int,(c.client:Int)=cl:=⟨_,rfl⟩
 rw [ecl] at f1 f2 f2b c1
 obtain⟨sq,esq⟩:∃sq:Int,(c.seq:Int)=sq:=⟨_,rfl⟩
 rw [esq] at f3 f3c c2
 have ESQ:=Lh esq
 have ECL:=Lh ecl
 clear esq ecl f1b f3b f5c
 clear hbd e1 e2 e3 e4 e5
 have hcase:(k1=true∨(k1=false∧s0=true∧s1=true))∧(a1=false∧a2=false∧a3=false∧a4=false∧a5=false):=by
  have h:=HBAD.out
  revert h
  cases k1 <;> cases s0 <;> cases s1 <;> cases a1 <;> cases a2 <;> cases a3 <;> cases a4 <;> cases a5 <;> simp
 obtain⟨hk,rfl,rfl,rfl,rfl,rfl⟩:=hcase
 have hff:=find_mm (o:=natO) (key:=SesT.client) (g:=fun x:SesT=>x) (ms:=m.x.sess) (xs:=m.x.sess) (by simp) hRS.out c.client
 obtain⟨n,en⟩:∃n,m.x.sess.length=n:=⟨_,rfl⟩
 have EN:=Lh en
 have hn:n≤16777216:=by rw [← en];exact HM1.out.inn.wf.sl
 have HFW:=Lh (fun W kb h1 h2=>findSes m.SA n m.sc m.x.sess kb c.client W h1 (Lh en) (by omega) h2 (Lh fun _ _=>trivial) trivial)
 rw [show cmpSes c.client=cmpO natO (fun m:SesT=>SesT.client ((fun x:SesT=>x) m)) c.client from rfl] at HFW
 rw [en] at hff
 obtain⟨p,ep⟩:∃p,bsP (fL (cmpO natO (fun m:SesT=>SesT.client ((fun x:SesT=>x) m)) c.client) m.x.sess) n=p:=⟨_,rfl⟩
 obtain⟨b,eb⟩:∃b,bsB (fL (cmpO natO (fun m:SesT=>SesT.client ((fun x:SesT=>x) m)) c.client) m.x.sess) n=b:=⟨_,rfl⟩
 rw [ep,eb] at HFW hff
 have HFF:=Lh hff
 clear hff ep eb en HBAD
 rcases hk with rfl | ⟨rfl,rfl,rfl⟩
 all_goals
  go_upto_region 4 with (fail)
  clear c0 c1 c2 c3 c4 ek es0 es1 f0 f0b f1 f2 f2b f3 f3c f4 f4b f5 f5b
  refine wp_region_late (S0:=fun w'=>w'.cell? ⟨g,10,none⟩=some (.slice m.SA n m.sc)∧w'.cell? ⟨b0,1,none⟩=some (.int .u64 (c.client:Int))) (S:=fun _=>True) 13 14 (by kernel_rfl) rfl ⟨⟨(HM1.out.blk.cell 10).trans (by rw [← EN.out];rfl),(HB.out.cell 1).trans V1.out⟩,trivial⟩ (fun wd hwd hH=>?_)
  have DW:=Lh (show Below w1.heap.size w1 wd from by rw [hwd];exact (Below.refl _ _).drew)
  clear hwd
  have HMD:=Lh (HM1.out.later DW.out)
  have HBD1:=Lh (HB.out.below DW.out HB.out.lt)
  refine tS 0 rfl ?_ hH ?_ ?_
  rotate_left
  · (intro wx hx;obtain⟨_,_⟩:=hx;go_simp <;> with_reducible rfl)
  try simp only [Act.put,pA9,pZ9,pS9]
  refine tS 1 rfl ?_ hH ?_ ?_
  rotate_left
  · (intro wx hx;obtain⟨_,_⟩:=hx;go_simp <;> with_reducible rfl)
  try simp only [Act.put,pA9,pZ9,pS9]
  refine tS 2 rfl ?_ hH ?_ ?_
  rotate_left
  · (intro wx hx;obtain⟨_,_⟩:=hx;go_simp <;> with_reducible rfl)
  try simp only [Act.put,pA9,pZ9,pS9]
  refine tS 3 rfl ?_ hH ?_ ?_
  rotate_left
  · (intro wx hx;obtain⟨_,_⟩:=hx;go_simp <;> with_reducible rfl)
  try simp only [Act.put,pA9,pZ9,pS9]
  refine tS 4 rfl ?_ hH ?_ ?_
  rotate_left
  · (intro wx hx;obtain⟨_,_⟩:=hx;go_simp <;> with_reducible rfl)
  try simp only [Act.put,pA9,pZ9,pS9]
  refine tS 5 rfl ?_ hH ?_ ?_
  rotate_left
  · (intro wx hx;obtain⟨_,_⟩:=hx;go_simp <;> with_reducible rfl)
  try simp only [Act.put,pA9,pZ9,pS9]
  refine tS 6 rfl ?_ hH ?_ ?_
  rotate_left
  · (intro wx hx;obtain⟨_,_⟩:=hx;go_simp <;> with_reducible rfl)
  try simp only [Act.put,pA9,pZ9,pS9]
  refine wpAnyT_one 7 rfl (by kernel_rfl) (fun K hQ=>?_)
  go_simp
  (go_at_call 87;refine (mkSes c.client _).mono ?_;rintro e w8 ⟨rfl,hc8,hb8⟩)
  have HC8:=Lh hc8
  have HB8:=Lh hb8
  have HM8:=Lh (HMD.out.later hb8)
  clear hc8 hb8
  refine hQ.out _ _ ?_ (fun hH7=>?_)
  · exact⟨⟨(HM8.out.blk.cell 10).trans (by rw [← EN.out];rfl),((HBD1.out.below HB8.out HBD1.out.lt).cell 1).trans V1.out⟩,trivial⟩
  clear hQ K
  try simp only [Act.put,pA9,pZ9,pS9]
  refine wpAnyT_one 8 rfl (by kernel_rfl) (fun K hQ=>?_)
  go_simp
  (go_at_call 86;refine (HFW.out _ wd.heap.size (Lh (by have:=HM8.out.inn.rows.sess.rd;unfold MM.sess at this;rw [EN.out] at this;exact this)) HC8).mono ?_;rintro e w9 ⟨rfl,hb9⟩)
  have HB9:=Lh hb9
  have HM9:=Lh (HM8.out.later hb9)
  have HB89:=Lh (HB8.out.trans (hb9.mono HB8.out.size))
  clear hb9
  refine hQ.out _ _ ?_ (fun hH8=>?_)
  · exact⟨⟨(HM9.out.blk.cell 10).trans (by rw [← EN.out];rfl),((HBD1.out.below HB89.out HBD1.out.lt).cell 1).trans V1.out⟩,trivial⟩
  clear hQ K
  try simp only [Act.put,pA9,pZ9,pS9]
  refine tS 9 rfl ?_ hH8 ?_ ?_
  rotate_left
  · (intro wx hx;obtain⟨_,_⟩:=hx;go_simp <;> with_reducible rfl)
  try simp only [Act.put,pA9,pZ9,pS9]
  refine tS 10 rfl ?_ hH8 ?_ ?_
  rotate_left
  · (intro wx hx;obtain⟨_,_⟩:=hx;go_simp <;> with_reducible rfl)
  try simp only [Act.put,pA9,pZ9,pS9]
  refine tS 11 rfl ?_ hH8 ?_ ?_
  rotate_left
  · (intro wx hx;obtain⟨_,_⟩:=hx;go_simp <;> with_reducible rfl)
  try simp only [Act.put,pA9,pZ9,pS9]
  refine tS 12 rfl ?_ hH8 ?_ ?_
  rotate_left
  · (intro wx hx;obtain⟨_,_⟩:=hx;go_simp <;> with_reducible rfl)
  try simp only [Act.put,pA9,pZ9,pS9]
  refine wpAnyT_last 13 rfl (by kernel_rfl) (by decide) (fun K hQ=>?_)
  go_simp
  refine hQ.out _ _ ?_ (fun hH13=>?_)
  · exact hH8.1
  clear hQ K
  try simp only [Act.put,pA9,pZ9,pS9]
  refine wpAnyT_done (by kernel_rfl) ?_ _
  clear hH hH7 hH8 hH13
  have HB19:=Lh (DW.out.trans (HB89.out.mono DW.out.size))
  have HBc:=Lh (HB.out.below HB19.out HB.out.lt)
  have HR9:=Lh (HRB.out.below HB19.out HRB.out.lt)
  clear HMD HM8 HC8 DW HB8 HB89 HB9 HBD1 HFW
  cases b with
  | false =>
    have hf:findR natO SesT.client c.client m.x.sess=none:=by
     rcases HFF.out with ⟨h1,_⟩ | ⟨_,h1⟩
     · cases h1
     · exact h1
    have HF:=Lh hf
    clear hf
    have HGX:=Lh (gb_below HB19.out (some g))
    go_wp2_with (refine wpl_store_blk rfl 39 (.tmp 4) _ rfl (b0+1) 39 rZ (rZ) rfl rfl HR9.out rfl Tryz.szR rfl ?_;intro w21 hB21 hO21)
    have HMF:=HM9.out
    rw [← EGG.out] at HMF
    have HTF:=TurnM.mk (gb_fresh (gb_trans (gb_below HB0.out (some g)) HGX.out) hO21.out (by rw [E0.out];omega)) (HMF.sub hO21.out (by have:=HGL.out;omega) HGG.out) rfl
    refine bodyPost_ret (res_ct Tryz.results50 rfl rfl (load_blk hB21.out Tryz.underlying39 rfl Tryz.szR)) rfl ?_
    unfold RetAsk askM
    rw [HBD.out,if_neg (by decide),HF.out]
    exact⟨rfl,HTF⟩
  | true =>
    obtain⟨s1,hpi,hf⟩:∃y,m.x.sess[p]?=some y∧findR natO SesT.client c.client m.x.sess=some y:=by
     rcases HFF.out with ⟨_,h1⟩ | ⟨h1,_⟩
     · exact h1
     · cases h1
    obtain⟨hp,ei⟩:=List.getElem?_eq_some_iff.1 hpi
    have hpn:p<n:=by rw [← EN.out];exact hp
    obtain⟨ia,eia,iab,icc⟩:=elem_cells (cells:=sesL) (K:=5) (fun _=>rfl) HM9.out.inn.rows.sess.rd hp (by show 0<m.x.sess.length;rw [EN.out];omega)
    rw [ei] at icc
    have c9:w9.cell? ⟨g,10,none⟩=some (.slice (some ia) n m.sc):=(HM9.out.blk.cell 10).trans (by rw [← EN.out,← show m.SA=some ia from eia];rfl)
    have ICC:=Lh icc
    have HF:=Lh hf
    clear icc hf ei eia iab hp hpi HFF
    have hask:askM m.x c=if c.seq<s1.seq then .inl (resC 4) else if s1.seq=c.seq∧s1.opn=false then .inl ⟨s1.code,s1.version,[],0⟩ else if s1.opn then (match findR natO verI s1.version m.x.ints with | some x => .inr (giveUpM m.x x) | none => .inr m.x) else .inr m.x:=by
     unfold askM
     rw [HBD.out,if_neg (by decide),HF.out]
     rfl
    have HASK:=Lh hask
    clear hask
    go_upto_region 7 with (first
     | (refine wpl_load_at rfl 92 (.tmp 73) rfl (ia.add (p*5)) (sesL s1) _ rfl ICC.out Tryz.underlying92 rfl rfl ?_)
     | (refine wpl_store_blk rfl 92 (.tmp 9) (.tmp 74) rfl w9.heap.size 92 _ (sesCs s1) rfl rfl (Blk.new w9 _ _) rfl rfl rfl ?_;intro w10 hB10 hO10))
    have HB10:=Lh (show Below w9.heap.size w9 w10 from ((Below.refl _ _).alloc (Nat.le_refl _) _).trans (hO10.out.below (Nat.le_refl _)))
    have HS10:=Lh hB10.out
    have HM10:=Lh (HM9.out.later HB10.out)
    have HBd:=Lh (HBc.out.below HB10.out HBc.out.lt)
    have HR10:=Lh (HR9.out.below HB10.out HR9.out.lt)
    have HB110:=Lh (HB19.out.trans (HB10.out.mono HB19.out.size))
    clear hB10 hO10 HM9 HBc HR9 c9 ICC
    obtain⟨b9,e9⟩:∃b9,w9.heap.size=b9:=⟨_,rfl⟩
    rw [e9] at HS10 ⊢
    clear e9 HB10
    have q1:w10.cell? ⟨b9,1,none⟩=some (.int .u64 (s1.seq:Int)):=HS10.out.cell 1
    have q2:w10.cell? ⟨b9,2,none⟩=some (.bool s1.opn):=HS10.out.cell 2
    have q3:w10.cell? ⟨b9,3,none⟩=some (.int .u64 (s1.version:Int)):=HS10.out.cell 3
    have q4:w10.cell? ⟨b9,4,none⟩=some (.int .i64 s1.code):=HS10.out.cell 4
    have c2:w10.cell? ⟨b0,2,none⟩=some (.int .u64 (c.seq:Int)):=(HBd.out.cell 2).trans V2.out
    obtain⟨opn,eopn⟩:∃o,s1.opn=o:=⟨_,rfl⟩
    rw [eopn] at q2 HASK
    clear eopn
    have HGX:=Lh (gb_below HB110.out (some g))
    by_cases hgt:c.seq<s1.seq
    · have HA:=Lh (show askM m.x c = .inl (resC 4) from by rw [HASK.out,if_pos hgt])
      have d1:decide ((s1.seq:Int)>(c.seq:Int))=true:=decide_eq_true (by omega)
      have d2:decide ((c.seq:Int)<(s1.seq:Int))=true:=decide_eq_true (by omega)
      have d3:decide (c.seq<s1.seq)=true:=decide_eq_true hgt
      clear hgt
      go_wp2_with (first
       | (go_at_call 49;refine (code_any _ _).mono ?_;rintro e w20 ⟨rfl,hb20⟩;have HB20:=Lh hb20;have HR20:=Lh (HR10.out.below hb20 HR10.out.lt);clear hb20)
       | (refine wpl_store_blk rfl 39 (.tmp 4) _ rfl (b0+1) 39 rZ _ rfl rfl HR20.out rfl Tryz.szR rfl ?_;intro w21 hB21 hO21))
      have HMF:=HM10.out.later HB20.out
      rw [← EGG.out] at HMF
      have HTF:=TurnM.mk (gb_fresh (gb_trans (gb_trans (gb_below HB0.out (some g)) HGX.out) (gb_below HB20.out _)) hO21.out (by rw [E0.out];omega)) (HMF.sub hO21.out (by have:=HGL.out;omega) HGG.out) rfl
      refine bodyPost_ret (res_ct Tryz.results50 rfl rfl (load_blk hB21.out Tryz.underlying39 rfl Tryz.szR)) rfl ?_
      unfold RetAsk
      rw [HA.out]
      exact⟨rfl,HTF,rfl,rfl⟩
    · have d1:decide ((s1.seq:Int)>(c.seq:Int))=false:=decide_eq_false (by omega)
      have d2:decide ((c.seq:Int)<(s1.seq:Int))=false:=decide_eq_false (by omega)
      have d3:decide (c.seq<s1.seq)=false:=decide_eq_false hgt
      rw [if_neg hgt] at HASK
      clear hgt
      by_cases heq:s1.seq=c.seq∧opn=false
      · have HA:=Lh (show askM m.x c = .inl ⟨s1.code,s1.version,[],0⟩ from by rw [HASK.out,if_pos heq])
        obtain⟨h1,rfl⟩:=heq
        have d4:((s1.seq:Int) == (c.seq:Int))=true:=by rw [h1];simp
        have d5:(s1.seq == c.seq)=true:=by rw [h1];simp
        clear h1
        go_wp2_with (refine wpl_store_blk rfl 39 (.tmp 4) _ rfl (b0+1) 39 rZ (rcs ⟨s1.code,s1.version,[],0⟩ none 0) rfl rfl HR10.out rfl Tryz.szR rfl ?_;intro w21 hB21 hO21)
        have HMF:=HM10.out
        rw [← EGG.out] at HMF
        have HTF:=TurnM.mk (gb_fresh (gb_trans (gb_below HB0.out (some g)) HGX.out) hO21.out (by rw [E0.out];omega)) (HMF.sub hO21.out (by have:=HGL.out;omega) HGG.out) rfl
        refine bodyPost_ret (res_ct Tryz.results50 rfl rfl (load_blk hB21.out Tryz.underlying39 rfl Tryz.szR)) rfl ?_
        unfold RetAsk
        rw [HA.out]
        exact⟨rfl,HTF,rfl,rfl⟩
      · rw [if_neg heq] at HASK
        have hor:opn=true∨(opn=false∧s1.seq≠c.seq):=by cases opn <;> simp_all
        clear heq
        rcases hor with rfl | ⟨rfl,hne⟩
        · rw [if_pos rfl] at HASK
          have hsq:((s1.seq:Int) == (c.seq:Int))=true∨((s1.seq:Int) == (c.seq:Int))=false:=by cases ((s1.seq:Int) == (c.seq:Int)) <;> simp
          have HIA:=Lh (fun W (h:Hid (MS GG g m W))=>intent_any GG g m s1.version W h hRI)
          rcases hsq with d4 | d4
          all_goals
           go_wp2_with fail
           refine (HIA.out _ HM10).mono ?_
           rintro e w12 ⟨hb,⟨hf,rfl⟩ | ⟨i,hi,hf,rfl⟩⟩
           · have HF2:=Lh hf
             have HB12:=Lh hb
             clear hf hb q1 q2 q3 q4 c2 d1 d2 d3 d4
             have HA:=Lh (show askM m.x c = .inr m.x from by rw [HASK.out,HF2.out])
             go_wp2_with (first
              | (refine wpl_store_blk rfl 60 (.tmp 10) (.tmp 106) rfl w12.heap.size 60 iZ iZ rfl rfl (Blk.new w12 _ _) rfl Tryz.szIt rfl ?_;intro w14 hB14 hO14;have HB14:=Lh (HB12.out.trans (((Below.refl w12.heap.size w12).alloc (Nat.le_refl _) _ |>.trans (hO14.out.below (Nat.le_refl _))).mono HB12.out.size));have HR14:=Lh (HR10.out.below HB14.out HR10.out.lt);clear hB14 hO14)
              | (refine wpl_store_blk rfl 39 (.tmp 4) _ rfl (b0+1) 39 rZ rZ rfl rfl HR14.out rfl Tryz.szR rfl ?_;intro w21 hB21 hO21))
             have HMF:=HM10.out.later HB14.out
             rw [← EGG.out] at HMF
             have HTF:=TurnM.mk (gb_fresh (gb_trans (gb_trans (gb_below HB0.out (some g)) HGX.out) (gb_below HB14.out _)) hO21.out (by rw [E0.out];omega)) (HMF.sub hO21.out (by have:=HGL.out;omega) HGG.out) rfl
             refine bodyPost_ret (res_ct Tryz.results50 rfl rfl (load_blk hB21.out Tryz.underlying39 rfl Tryz.szR)) rfl ?_
             unfold RetAsk
             rw [HA.out]
             exact⟨rfl,HTF⟩
           · have HF2:=Lh (And.intro hi hf)
             have HB12:=Lh hb
             have hob:i.x.obj.nodes.length≤255:=hnd.out i.x (int_mem HM10.out.inn hi)
             have HGU:=Lh (fun W (h:Hid (MS GG g m W))=>giveUp_any GG g m i W h (Lh (h.out.inn.rows.is i HF2.out.1)) (Lh ((h.out.off g h.out.mem).is i HF2.out.1)) hob hRW hRI (by omega))
             clear hf hb hi hob q1 q2 q3 q4 c2 d1 d2 d3 d4
             have HA:=Lh (show askM m.x c = .inr (giveUpM m.x i.x) from by rw [HASK.out,HF2.out.2])
             obtain⟨ic,eic⟩:∃ic,iA i=ic:=⟨_,rfl⟩
             have IZ:=Lh (show ic.size=9 from by rw [← eic];rfl)
             have IO:=Lh (show ic.toList.all (·.oneCell')=true from by rw [← eic];rfl)
             rw [eic] at HGU ⊢
             clear eic
             have HM12:=Lh (HM10.out.later HB12.out)
             have HR12:=Lh (HR10.out.below HB12.out HR10.out.lt)
             go_wp2_with (first
              | (refine wpl_store_blk rfl 60 (.tmp 10) (.tmp 106) rfl w12.heap.size 60 iZ ic rfl rfl (Blk.new w12 _ _) (by rw [IZ.out];rfl) (by rw [IZ.out];exact Tryz.szIt) IO.out ?_;intro w14 hB14 hO14;have HB14:=Lh (show Below w12.heap.size w12 w14 from ((Below.refl _ _).alloc (Nat.le_refl _) _).trans (hO14.out.below (Nat.le_refl _)));have HI14:=Lh hB14.out;have HR14:=Lh (HR12.out.below HB14.out HR12.out.lt);clear hB14 hO14)
              | (refine wpl_load_blk rfl 60 (.tmp 10) rfl w12.heap.size 60 ic _ rfl HI14.out Tryz.underlying60 rfl (by rw [IZ.out];exact Tryz.szIt) ?_)
              | (go_at_call 60;refine (HGU.out _ (Lh (HM12.out.later HB14.out))).mono ?_;rintro e w15 ⟨rfl,hgb,m5,hm5,hx5⟩;have HGB5:=Lh hgb;have HM5:=Lh hm5;have HX5:=Lh hx5;have HR15:=Lh (HR14.out.gb hgb (by have:=HGL.out;omega));clear hgb hm5 hx5)
              | (refine wpl_store_blk rfl 39 (.tmp 4) _ rfl (b0+1) 39 rZ rZ rfl rfl HR15.out rfl Tryz.szR rfl ?_;intro w21 hB21 hO21))
             have HMF:=HM5.out
             rw [← EGG.out] at HMF
             have HTF:=TurnM.mk (gb_fresh (gb_trans (gb_trans (gb_trans (gb_below HB0.out (some g)) HGX.out) (gb_below (HB12.out.trans (HB14.out.mono HB12.out.size)) _)) HGB5.out) hO21.out (by rw [E0.out];omega)) (HMF.sub hO21.out (by have:=HGL.out;omega) HGG.out) HX5.out
             refine bodyPost_ret (res_ct Tryz.results50 rfl rfl (load_blk hB21.out Tryz.underlying39 rfl Tryz.szR)) rfl ?_
             unfold RetAsk
             rw [HA.out]
             exact⟨rfl,HTF⟩
        · have d4:((s1.seq:Int) == (c.seq:Int))=false:=by rw [beq_eq_false_iff_ne];omega
          have d5:(s1.seq == c.seq)=false:=by rw [beq_eq_false_iff_ne];exact hne
          clear hne
          have HA:=Lh (show askM m.x c = .inr m.x from by rw [HASK.out,if_neg (by decide)])
          go_wp2_with (refine wpl_store_blk rfl 39 (.tmp 4) _ rfl (b0+1) 39 rZ (rZ) rfl rfl HR10.out rfl Tryz.szR rfl ?_;intro w21 hB21 hO21)
          have HMF:=HM10.out
          rw [← EGG.out] at HMF
          have HTF:=TurnM.mk (gb_fresh (gb_trans (gb_below HB0.out (some g)) HGX.out) hO21.out (by rw [E0.out];omega)) (HMF.sub hO21.out (by have:=HGL.out;omega) HGG.out) rfl
          refine bodyPost_ret (res_ct Tryz.results50 rfl rfl (load_blk hB21.out Tryz.underlying39 rfl Tryz.szR)) rfl ?_
          unfold RetAsk
          rw [HA.out]
          exact⟨rfl,HTF⟩
end Go.Proofs.YtdoneomahlfkbaaGreat
end
section
namespace Go.Proofs.YtdoneomahlfkbaaGreat
open Go.RowKit OctMath
theorem MS.only {G:List Nat} {g k:Nat} {m:MM} {w w':World} (h:MS G g m w) (ho:Only k w w') (hk:k ∈ G) (hg:g≠k):MS G g m w' :=
 ⟨ho.blk h.blk hg,⟨⟨fun r hr=>(h.inn.rows.top r hr).grown ((h.off k hk).top r hr) ho.grown,fun r hr=>(h.inn.rows.os r hr).grown ((h.off k hk).os r hr) ho.grown,fun r hr=>(h.inn.rows.is r hr).grown ((h.off k hk).is r hr) ho.grown⟩,h.inn.os,h.inn.is,h.inn.wf⟩,h.off,h.mem,fun q hq=>by rw [ho.size];exact h.lt q hq⟩
theorem MS.less {G G':List Nat} {g:Nat} {m:MM} {w:World} (h:MS G' g m w) (hs:∀k ∈ G,k ∈ G') (hg:g ∈ G):MS G g m w:=⟨h.blk,h.inn,fun k hk=>h.off k (hs k hk),hg,fun k hk=>h.lt k (hs k hk)⟩
structure MOk (m:MM):Prop where
 rw:Ris wasO (fun x=>x) m.x.wass
 ri:Ris natO verI m.x.ints
 rs:Ris natO SesT.client m.x.sess
 ro:Ris bytO ObjT.key m.x.objs
 ni:∀x ∈ m.x.ints,x.obj.nodes.length≤255
 no:∀x ∈ m.x.objs,x.nodes.length≤255
 wl:m.x.wass.length+1024≤33554432
 sl:m.x.sess.length+1≤16777216
 ol:m.x.objs.length+1≤16777216
 il:m.x.ints.length+1≤16777216
theorem Tryz.szCm:(Tryz.prog.info? 48).map (·.size)=some 16:=by kernel_rfl
theorem asked_all (G:List Nat) (g:Nat) (m:MM) (c:CmdT) (CA:Option Addr) (cc:Nat) (w:World) (hM:Hid (MS G g m w)) (hkl:c.key.length≤9223372036854775807) (ok:Hid (MOk m)) :
 Calls Tryz.prog 50 #[.pointer (some ⟨g,0,none⟩),.agg (cmdCs c CA cc)] w (RetAsk G g m.x c w):=by
 cases hb:askBad c with
 | true=>exact ask_bad G g m c CA cc w hM hkl hb
 | false=>exact ask_ok_any G g m c CA cc w hM hkl hb (Lh ok.out.rw) (Lh ok.out.ri) (Lh ok.out.rs) (Lh ok.out.ni) (by have:=ok.out.wl;omega)
structure AskL (m m':MetT):Prop where
 rw:Ris wasO (fun x=>x) m.wass→Ris wasO (fun x=>x) m'.wass
 sess:m'.sess=m.sess
 objs:m'.objs=m.objs
 ints:∀x ∈ m'.ints,x ∈ m.ints
 ri:Ris natO verI m.ints→Ris natO verI m'.ints
 il:m'.ints.length≤m.ints.length
 wl:(∀x ∈ m.ints,x.obj.nodes.length≤255)→m'.wass.length≤m.wass.length+255
 last:m'.last=m.last
 nep:m'.nep=m.nep
 nem:m'.nem=m.nem
 n:m'.n=m.n
 gs:m'.groups=m.groups
theorem AskL.refl (m:MetT):AskL m m:=⟨fun h=>h,rfl,rfl,fun _ h=>h,fun h=>h,Nat.le_refl _,fun _=>by omega,rfl,rfl,rfl,rfl,rfl⟩
theorem ask_left {m m':MetT} {c:CmdT} (h:askM m c = .inr m'):AskL m m':=by
 unfold askM at h
 split at h
 · cases h
 · split at h
   · injection h with h;subst h;exact AskL.refl m
   · split at h
     · cases h
     · split at h
       · cases h
       · split at h
         · split at h
           · rename_i x hx
             injection h with h
             subst h
             have hm:x ∈ m.ints:=by
              have:∀ (v:Nat) (l:List IntT),findR natO verI v l=some x→x ∈ l:=by
               intro v l
               induction l with
               | nil=>intro h;cases h
               | cons y l ih =>
                 intro h
                 unfold findR at h
                 split at h
                 · exact List.mem_cons_of_mem _ (ih h)
                 · split at h
                   · cases h
                   · injection h with h;rw [h];exact List.mem_cons_self
              exact this _ _ hx
             exact⟨fun k=>ris_waste k _,rfl,rfl,fun y hy=>drop_sub.subset hy,fun k=>ris_drop k,drop_le,fun k=>by have:=waste_le m.wass x.obj;have:=k x hm;show (wasteF m.wass x.obj).length≤_;omega,rfl,rfl,rfl,rfl,rfl⟩
           · injection h with h;subst h;exact AskL.refl m
         · injection h with h;subst h;exact AskL.refl m
theorem remove_any (G:List Nat) (g:Nat) (m:MM) (c:CmdT) (CA:Option Addr) (cc:Nat) (w:World) (hM:Hid (MS G g m w)) (ok:Hid (MOk m)) (hkb:Byt c.key) (hkl:c.key.length≤9223372036854775807) :
 Calls Tryz.prog 23 #[.pointer (some ⟨g,0,none⟩),.agg (cmdCs c CA cc)] w (RetRes G g (removeM m.x c) w):=by
 obtain⟨cs,ecs⟩:∃cs,cmdCs c CA cc=cs:=⟨_,rfl⟩
 have V0:=Lh (show cs[0]?=some (.int .i64 c.kind) from by rw [← ecs];rfl)
 have V1:=Lh (show cs[1]?=some (.int .u64 (c.client:Int)) from by rw [← ecs];rfl)
 have V2:=Lh (show cs[2]?=some (.int .u64 (c.seq:Int)) from by rw [← ecs];rfl)
 have V3:=Lh (show cs[3]?=some (.string (strOf c.key)) from by rw [← ecs];rfl)
 have V4:=Lh (show cs[4]?=some (.int .i64 c.size) from by rw [← ecs];rfl)
 have V5:=Lh (show cs[5]?=some (.int .u32 (c.sum:Int)) from by rw [← ecs];rfl)
 have V6:=Lh (show cs[6]?=some (.int .u64 (c.version:Int)) from by rw [← ecs];rfl)
 have V7:=Lh (show cs[7]?=some (.int .u64 (c.epoch:Int)) from by rw [← ecs];rfl)
 have V8:=Lh (show cs[8]?=some (.int .i64 c.group) from by rw [← ecs];rfl)
 have V9:=Lh (show cs[9]?=some (.int .i64 c.node) from by rw [← ecs];rfl)
 have V10:=Lh (show cs[10]?=some (.bool c.up) from by rw [← ecs];rfl)
 have V11:=Lh (show cs[11]?=some (.int .u64 (c.id.ver:Int)) from by rw [← ecs];rfl)
 have V12:=Lh (show cs[12]?=some (.int .i64 c.id.idx) from by rw [← ecs];rfl)
 have V13:=Lh (show cs[13]?=some (.int .u64 (c.id.ep:Int)) from by rw [← ecs];rfl)
 have V14:=Lh (show cs[14]?=some (.int .u64 (c.mep:Int)) from by rw [← ecs];rfl)
 have V15:=Lh (show cs[15]?=some (.slice CA c.mem.length cc) from by rw [← ecs];rfl)
 have HCS:=Lh (show cs.size=16 from by rw [← ecs];rfl)
 have HCO:=Lh (show cs.toList.all (·.oneCell')=true from by rw [← ecs];rfl)
 rw [ecs]
 have ECS:=Lh ecs
 clear ecs
 have HGL:=Lh hM.out.blk.lt
 go_enter Tryz.func23,Tryz.ntmps23
 go_upto_region 1 with (fail)
 obtain⟨w1,ew1⟩:∃w1,(w.alloc (.cells cs 48)).alloc (.cells rZ 39)=w1:=⟨_,rfl⟩
 have hb0:Below w.heap.size w ((w.alloc (.cells cs 48)).alloc (.cells rZ 39)):=((Below.refl _ _).alloc (Nat.le_refl _) _).alloc (by simp) _
 have hB:=(Blk.new w 48 cs).alloc (.cells rZ 39)
 have hR:=Blk.new (w.alloc (.cells cs 48)) 39 rZ
 have hs1:(w.alloc (.cells cs 48)).heap.size=w.heap.size+1:=by simp
 rw [hs1] at hR
 rw [ew1] at hb0 hB hR
 have ew1':(w.alloc (.cells cs 48)).alloc (.cells #[.int .i64 0,.int .u64 0,.slice none 0 0,.int .u64 0] 39)=w1:=ew1
 rw [ew1']
 have HB0:=Lh hb0
 have HB:=Lh hB
 have HRB:=Lh hR
 have HM1:=Lh (hM.out.add hb0 (k:=w.heap.size+1) (by omega) hR.lt)
 have HGG:=Lh hM.out.mem
 clear hb0 hB hR hs1 ew1 ew1' hM
 obtain⟨b0,e0⟩:∃b0,w.heap.size=b0:=⟨_,rfl⟩
 have E0:=Lh e0
 rw [e0] at HB HRB HGL HM1 ⊢
 clear e0
 obtain⟨GG,eGG⟩:∃GG,(b0+1) :: G=GG:=⟨_,rfl⟩
 have EGG:=Lh eGG
 rw [eGG] at HM1
 clear eGG
 have HAW:=Lh (fun W (h:Hid (MS GG g m W))=>asked_all GG g m c CA cc W h hkl ok)
 rw [ECS.out] at HAW
 go_wp2_with (refine wpl_load_blk rfl 48 (.tmp 3) rfl b0 48 cs _ rfl HB.out Tryz.underlying48 rfl (by rw [HCS.out];exact Tryz.szCm) ?_)
 refine (HAW.out _ HM1).mono ?_
 rintro e w2 hr
 unfold RetAsk at hr
 cases ha:askM m.x c with
 | inl r =>
   rw [ha] at hr
   obtain⟨rfl,⟨hgb,mA,hmA,hxA⟩,hn,_⟩:=hr
   have HA:=Lh ha
   have HGB2:=Lh hgb
   have HMA:=Lh hmA
   have HXA:=Lh hxA
   have HN:=Lh hn
   have HR2:=Lh (HRB.out.gb hgb (by have:=HGL.out;omega))
   clear ha hgb hmA hxA hn HAW
   go_wp2_with (first
    | (refine wpl_store_blk rfl 39 (.tmp 5) (.tmp 11) rfl w2.heap.size 39 rZ (rcs r none 0) rfl rfl (Blk.new w2 _ _) rfl Tryz.szR rfl ?_;intro w3 hB3 hO3;have HT3:=Lh hB3;have HB23:=Lh (show Below w2.heap.size w2 w3 from ((Below.refl _ _).alloc (Nat.le_refl _) _).trans (hO3.out.below (Nat.le_refl _)));have HR3:=Lh (HR2.out.below HB23.out HR2.out.lt);clear hB3 hO3)
    | (refine wpl_load_blk rfl 39 (.tmp 5) rfl w2.heap.size 39 (rcs r none 0) _ rfl HT3.out.out Tryz.underlying39 rfl Tryz.szR ?_)
    | (refine wpl_store_blk rfl 39 (.tmp 4) _ rfl (b0+1) 39 rZ _ rfl rfl HR3.out rfl Tryz.szR rfl ?_;intro w11 hB11 hO11))
   have HMF:=HMA.out.later HB23.out
   rw [← EGG.out] at HMF
   have HTF:=TurnM.mk (gb_fresh (gb_trans (gb_trans (gb_below HB0.out (some g)) HGB2.out) (gb_below HB23.out _)) hO11.out (by rw [E0.out];omega)) (HMF.sub hO11.out (by have:=HGL.out;omega) HGG.out) HXA.out
   refine bodyPost_ret (res_c Tryz.results23 rfl (load_blk hB11.out Tryz.underlying39 rfl Tryz.szR)) rfl ?_
   refine ret_eq ?_ (RetRes.code rfl HN.out HTF)
   unfold removeM
   rw [HA.out]
 | inr mA' =>
   rw [ha] at hr
   obtain⟨rfl,hgb,mA,hmA,hxA⟩:=hr
   have HL:=Lh (ask_left ha)
   have HA:=Lh ha
   have HGB2:=Lh hgb
   have HMA:=Lh hmA
   have HXA:=Lh hxA
   have HR2:=Lh (HRB.out.gb hgb (by have:=HGL.out;omega))
   have HB2:=Lh (HB.out.gb hgb (Nat.ne_of_gt HGL.out))
   have HG2:=Lh (gb_trans (gb_below HB0.out (some g)) hgb)
   have HS2:=Lh hgb.size
   clear ha hgb hmA hxA HAW
   go_upto_region 4 with (refine wpl_store_blk rfl 39 (.tmp 5) (.tmp 11) rfl w2.heap.size 39 rZ rZ rfl rfl (Blk.new w2 _ _) rfl Tryz.szR rfl ?_;intro w3 hB3 hO3)
   have hb3:Below w2.heap.size w2 w3:=((Below.refl _ _).alloc (Nat.le_refl _) _).trans (hO3.out.below (Nat.le_refl _))
   have HT3:=Lh hB3.out
   obtain⟨b5,e5⟩:∃b5,w2.heap.size=b5:=⟨_,rfl⟩
   have H5N:=Lh (show g≠b5 from by have:=HMA.out.lt g HMA.out.mem;omega)
   have H5B:=Lh (show b0+1<b5 from by have:=HR2.out.lt;omega)
   have H50:=Lh (show w.heap.size≤b5 from by have:=HR2.out.lt;have:=E0.out;omega)
   rw [e5] at HT3 ⊢
   have E5:=Lh e5
   clear hB3 hO3 e5
   have z0:w3.cell? ⟨b5,0,none⟩=some (.int .i64 0):=HT3.out.cell 0
   have z1:w3.frozen? ⟨b5,0,none⟩=false:=HT3.out.frozen 0
   go_upto_region 5 with (fail)
   obtain⟨w4,ew4⟩:∃w4,w3.setCell ⟨b5,0,none⟩ (.int .i64 2)=w4:=⟨_,rfl⟩
   have hO4:=Only.set_ w3 b5 0 (.int .i64 2)
   have hT4:=HT3.out.set_ 0 (.int .i64 2)
   rw [ew4] at hO4 hT4 ⊢
   have HT4:Hid (Blk w4 b5 39 (rcs (resC 2) none 0)):=Lh hT4
   have HB24:=Lh (hb3.trans (hO4.below (Nat.le_of_eq E5.out)))
   have HM4:=Lh (HMA.out.add HB24.out (k:=b5) (Nat.le_of_eq E5.out) hT4.lt)
   have HB4:=Lh (HB2.out.below HB24.out HB2.out.lt)
   have HR4:=Lh (HR2.out.below HB24.out HR2.out.lt)
   have HG4:=Lh (gb_trans HG2.out (gb_below HB24.out _))
   clear z0 z1 ew4 hO4 hT4 hb3 HT3 HMA HB24
   have c3:=HB4.out.cell 3
   rw [V3.out] at c3
   have HAW:=Lh (away_any (b5 :: GG) g mA c.key w4 HM4 hkb (Lh (by rw [HXA.out];exact HL.out.rw ok.out.rw)) (Lh (by rw [HXA.out,HL.out.objs];exact ok.out.ro)) (Lh (by rw [HXA.out,HL.out.objs];exact ok.out.no)) (by rw [HXA.out];have:=HL.out.wl ok.out.ni;have:=ok.out.wl;omega))
   have HAF:=Lh (away_facts (m:=mA.x) (by rw [HXA.out,HL.out.objs];exact ok.out.ro) c.key)
   go_wp2_with fail
   refine HAW.out.mono ?_
   rintro e w5 ⟨rfl,hgb,m5,hm5,hx5⟩
   have HM5:=Lh hm5
   have HX5:=Lh hx5
   have HT5:=Lh (HT4.out.gb hgb (Ne.symm H5N.out))
   have HB5:=Lh (HB4.out.gb hgb (Nat.ne_of_gt HGL.out))
   have HR5:=Lh (HR4.out.gb hgb (by have:=HGL.out;omega))
   have HG5:=Lh (gb_trans HG4.out hgb)
   have HS5:=Lh (show Ris natO SesT.client m5.x.sess from by rw [HX5.out,HAF.out.2.2,HXA.out,HL.out.sess];exact ok.out.rs)
   have HL5:=Lh (show m5.x.sess.length+1≤16777216 from by rw [HX5.out,HAF.out.2.2,HXA.out,HL.out.sess];exact ok.out.sl)
   obtain⟨bb,hbb⟩:∃bb,(awayM mA.x c.key).2=bb:=⟨_,rfl⟩
   have HBB:=Lh hbb
   rw [hbb]
   clear hgb hm5 hx5 c3 hbb HAW HT4 HM4 HB4 HR4 HG4
   cases bb with
   | true =>
     have z0:w5.cell? ⟨b5,0,none⟩=some (.int .i64 2):=HT5.out.cell 0
     have z1:w5.frozen? ⟨b5,0,none⟩=false:=HT5.out.frozen 0
     go_upto_region 7 with (fail)
     obtain⟨w6,ew6⟩:∃w6,w5.setCell ⟨b5,0,none⟩ (.int .i64 1)=w6:=⟨_,rfl⟩
     have hO6:=Only.set_ w5 b5 0 (.int .i64 1)
     have hT6:=HT5.out.set_ 0 (.int .i64 1)
     rw [ew6] at hO6 hT6 ⊢
     have HT6:Hid (Blk w6 b5 39 (rcs (resC 1) none 0)):=Lh hT6
     have HM6:=Lh (HM5.out.only hO6 List.mem_cons_self H5N.out)
     have HB6:=Lh (hO6.blk HB5.out (by have:=H5B.out;omega))
     have HR6:=Lh (hO6.blk HR5.out (by have:=H5B.out;omega))
     have HG6:=Lh (gb_fresh HG5.out hO6 H50.out)
     clear z0 z1 ew6 hO6 hT6
     have c1:=HB6.out.cell 1
     rw [V1.out] at c1
     have c2:=HB6.out.cell 2
     rw [V2.out] at c2
     have t0:w6.cell? ⟨b5,0,none⟩=some (.int .i64 1):=HT6.out.cell 0
     go_wp2_with (first
      | (go_at_call 54;refine (remember_any (b5 :: GG) g m5 ⟨c.client,c.seq,false,0,1⟩ _ HM6 HS5 HL5.out).mono ?_;rintro e w8 ⟨rfl,hgb,m8,hm8,hx8⟩;have HGB8:=Lh hgb;have HM8:=Lh hm8;have HX8:=Lh hx8;have HT8:=Lh (HT6.out.gb hgb (Ne.symm H5N.out));have HR8:=Lh (HR6.out.gb hgb (by have:=HGL.out;omega));clear hgb hm8 hx8 c1 c2 t0)
      | (refine wpl_load_blk rfl 39 (.tmp 5) rfl b5 39 (rcs (resC 1) none 0) _ rfl HT8.out Tryz.underlying39 rfl Tryz.szR ?_)
      | (refine wpl_store_blk rfl 39 (.tmp 4) _ rfl (b0+1) 39 rZ _ rfl rfl HR8.out rfl Tryz.szR rfl ?_;intro w21 hB21 hO21))
     have HMF:=HM8.out.less (fun k hk=>List.mem_cons_of_mem _ hk) (by rw [← EGG.out];exact List.mem_cons_of_mem _ HGG.out)
     rw [← EGG.out] at HMF
     have HTF:=TurnM.mk (gb_fresh (gb_trans HG6.out HGB8.out) hO21.out (by rw [E0.out];omega)) (HMF.sub hO21.out (by have:=HGL.out;omega) HGG.out) rfl
     refine bodyPost_ret (res_c Tryz.results23 rfl (load_blk hB21.out Tryz.underlying39 rfl Tryz.szR)) rfl ?_
     refine ret_eq ?_ (RetRes.code rfl rfl HTF)
     unfold removeM
     rw [HA.out,HX8.out,HX5.out]
     simp only []
     rw [← HXA.out,HBB.out]
     rfl
   | false =>
     go_upto_region 7 with (fail)
     have c1:=HB5.out.cell 1
     rw [V1.out] at c1
     have c2:=HB5.out.cell 2
     rw [V2.out] at c2
     have t0:w5.cell? ⟨b5,0,none⟩=some (.int .i64 2):=HT5.out.cell 0
     go_wp2_with (first
      | (go_at_call 54;refine (remember_any (b5 :: GG) g m5 ⟨c.client,c.seq,false,0,2⟩ _ HM5 HS5 HL5.out).mono ?_;rintro e w8 ⟨rfl,hgb,m8,hm8,hx8⟩;have HGB8:=Lh hgb;have HM8:=Lh hm8;have HX8:=Lh hx8;have HT8:=Lh (HT5.out.gb hgb (Ne.symm H5N.out));have HR8:=Lh (HR5.out.gb hgb (by have:=HGL.out;omega));clear hgb hm8 hx8 c1 c2 t0)
      | (refine wpl_load_blk rfl 39 (.tmp 5) rfl b5 39 (rcs (resC 2) none 0) _ rfl HT8.out Tryz.underlying39 rfl Tryz.szR ?_)
      | (refine wpl_store_blk rfl 39 (.tmp 4) _ rfl (b0+1) 39 rZ _ rfl rfl HR8.out rfl Tryz.szR rfl ?_;intro w21 hB21 hO21))
     have HMF:=HM8.out.less (fun k hk=>List.mem_cons_of_mem _ hk) (by rw [← EGG.out];exact List.mem_cons_of_mem _ HGG.out)
     rw [← EGG.out] at HMF
     have HTF:=TurnM.mk (gb_fresh (gb_trans HG5.out HGB8.out) hO21.out (by rw [E0.out];omega)) (HMF.sub hO21.out (by have:=HGL.out;omega) HGG.out) rfl
     refine bodyPost_ret (res_c Tryz.results23 rfl (load_blk hB21.out Tryz.underlying39 rfl Tryz.szR)) rfl ?_
     refine ret_eq ?_ (RetRes.code rfl rfl HTF)
     unfold removeM
     rw [HA.out,HX8.out,HX5.out]
     simp only []
     rw [← HXA.out,HBB.out]
     rfl
end Go.Proofs.YtdoneomahlfkbaaGreat
end
section
namespace Go.Proofs.YtdoneomahlfkbaaGreat.StrMath
def stZ (y:Nat):Nat:=y*y / 2147483648
def stB (y:Nat):Nat:=if stZ y<4294967296 then 0 else 1
def stY (y:Nat):Nat:=if stZ y<4294967296 then stZ y else stZ y / 2
def yN:Nat→Nat→Nat
 | 0,y=>y
 | k+1,y=>stY (yN k y)
def nN:Nat→Nat→Nat
 | 0,_=>0
 | k+1,y=>2*nN k y+stB (yN k y)
def yOf (u:Nat):Nat:=u*2 ^ (31 - Nat.log2 u)
def lnN (u:Nat):Nat:=Nat.log2 u*16777216+nN 24 (yOf u)
def ln (u:Int):Nat:=if u<1∨65536<u then 0 else lnN u.toNat
def cost (h:Nat) (w:Int):Int:=if w<1 then 9223372036854775807 else ((268435456 - (ln ((h % 65536:Nat)+1:Int):Int))*65536) / min w 65535
theorem stB_le (y:Nat):stB y≤1:=by unfold stB;split <;> omega
theorem stZ_ge {y:Nat} (h:2147483648≤y):2147483648≤stZ y:=by
 unfold stZ
 have:=Nat.mul_le_mul h h
 omega
theorem stZ_lt {y:Nat} (h:y<4294967296):stZ y<8589934592:=by
 unfold stZ
 have:=Nat.mul_le_mul (show y≤4294967295 by omega) (show y≤4294967295 by omega)
 omega
theorem sq_lt {y:Nat} (h:y<4294967296):y*y<18446744073709551616:=by
 have:=Nat.mul_le_mul (show y≤4294967295 by omega) (show y≤4294967295 by omega)
 omega
theorem stY_rng {y:Nat} (h1:2147483648≤y) (h2:y<4294967296):2147483648≤stY y∧stY y<4294967296:=by
 have:=stZ_ge h1
 have:=stZ_lt h2
 unfold stY;split <;> omega
theorem stZ_mono {x y:Nat} (h:x≤y):stZ x≤stZ y:=by
 unfold stZ
 exact Nat.div_le_div_right (Nat.mul_le_mul h h)
theorem yN_rng {y:Nat} (h1:2147483648≤y) (h2:y<4294967296) (k:Nat):2147483648≤yN k y∧yN k y<4294967296:=by
 induction k with
 | zero=>exact⟨h1,h2⟩
 | succ k ih=>exact stY_rng ih.1 ih.2
theorem nN_lt (y k:Nat):nN k y<2 ^ k:=by
 induction k with
 | zero=>simp [nN]
 | succ k ih =>
   have:=stB_le (yN k y)
   show 2*nN k y+stB (yN k y)<2 ^ (k+1)
   rw [Nat.pow_succ];omega
theorem lex {x y:Nat} (h:x≤y) (k:Nat):nN k x<nN k y∨(nN k x=nN k y∧yN k x≤yN k y):=by
 induction k with
 | zero=>exact .inr ⟨rfl,h⟩
 | succ k ih =>
   have b1:=stB_le (yN k x)
   have b2:=stB_le (yN k y)
   show 2*nN k x+stB (yN k x)<2*nN k y+stB (yN k y)∨(2*nN k x+stB (yN k x)=2*nN k y+stB (yN k y)∧stY (yN k x)≤stY (yN k y))
   rcases ih with ih | ⟨i1,i2⟩
   · left;omega
   · have hz:=stZ_mono i2
     unfold stB stY
     split <;> split <;> omega
theorem nN_mono {x y:Nat} (h:x≤y) (k:Nat):nN k x≤nN k y:=by
 rcases lex h k with h | h
 · omega
 · omega
theorem log2_rng {u:Nat} (h:1≤u):2 ^ Nat.log2 u≤u∧u<2 ^ (Nat.log2 u+1) :=
 ⟨Nat.log2_self_le (by omega),Nat.lt_log2_self⟩
theorem log2_le {u:Nat} (h:1≤u) (h2:u≤65536):Nat.log2 u≤16:=by
 have h1:=(log2_rng h).1
 rcases Nat.lt_or_ge 16 (Nat.log2 u) with h3 | h3
 · have:=Nat.pow_le_pow_right (n:=2) (by omega) (show 17≤Nat.log2 u from h3)
   omega
 · exact h3
theorem log2_mono {u v:Nat} (h:1≤u) (h2:u≤v):Nat.log2 u≤Nat.log2 v:=by
 have h1:=(log2_rng h).1
 have h3:=(log2_rng (show 1≤v by omega)).2
 rcases Nat.lt_or_ge (Nat.log2 v) (Nat.log2 u) with h4 | h4
 · have:=Nat.pow_le_pow_right (n:=2) (by omega) (show Nat.log2 v+1≤Nat.log2 u from h4)
   omega
 · exact h4
theorem yOf_rng {u:Nat} (h:1≤u) (h2:u≤65536):2147483648≤yOf u∧yOf u<4294967296:=by
 have h1:=log2_rng h
 have h3:=log2_le h h2
 have e1:2 ^ Nat.log2 u*2 ^ (31 - Nat.log2 u)=2147483648:=by rw [← Nat.pow_add,show Nat.log2 u+(31 - Nat.log2 u)=31 from by omega]
 have e2:2 ^ (Nat.log2 u+1)*2 ^ (31 - Nat.log2 u)=4294967296:=by rw [← Nat.pow_add,show Nat.log2 u+1+(31 - Nat.log2 u)=32 from by omega]
 unfold yOf
 refine⟨?_,?_⟩
 · rw [← e1];exact Nat.mul_le_mul_right _ h1.1
 · rw [← e2];exact Nat.mul_lt_mul_of_pos_right h1.2 (Nat.two_pow_pos _)
theorem yOf_mono {u v:Nat} (h2:u≤v) (he:Nat.log2 u=Nat.log2 v):yOf u≤yOf v:=by
 unfold yOf;rw [he];exact Nat.mul_le_mul_right _ h2
theorem lnN_mono {u v:Nat} (h:1≤u) (h2:u≤v):lnN u≤lnN v:=by
 have h3:=log2_mono h h2
 have n1:=nN_lt (yOf u) 24
 unfold lnN
 rcases Nat.lt_or_ge (Nat.log2 u) (Nat.log2 v) with h4 | h4
 · omega
 · have h5:Nat.log2 u=Nat.log2 v:=by omega
   have:=nN_mono (yOf_mono h2 h5) 24
   omega
theorem top_zero (k:Nat):nN k 2147483648=0∧yN k 2147483648=2147483648:=by
 induction k with
 | zero=>exact⟨rfl,rfl⟩
 | succ k ih =>
   show 2*nN k 2147483648+stB (yN k 2147483648)=0∧stY (yN k 2147483648)=2147483648
   rw [ih.1,ih.2];decide
theorem lnN_pow {k:Nat} (hk:k≤31):lnN (2 ^ k)=k*16777216:=by
 unfold lnN yOf
 rw [Nat.log2_two_pow,← Nat.pow_add,show k+(31 - k)=31 from by omega,show (2:Nat) ^ 31=2147483648 from rfl,(top_zero 24).1];omega
theorem lnN_le {u:Nat} (h:1≤u) (h2:u≤65536):lnN u≤268435456:=by
 have:=lnN_mono h h2
 rw [show (65536:Nat)=2 ^ 16 from rfl,lnN_pow (by omega)] at this
 omega
theorem ln_le (u:Int):ln u≤268435456:=by
 unfold ln;split
 · omega
 · exact lnN_le (by omega) (by omega)
theorem cost_rng (h:Nat) (w:Int):0≤cost h w∧cost h w≤9223372036854775807:=by
 unfold cost
 split
 · omega
 · have:=ln_le ((h % 65536:Nat)+1:Int)
   have h1:0<min w 65535:=by omega
   have h0:0≤(268435456 - (ln ((h % 65536:Nat)+1:Int):Int))*65536:=by omega
   refine⟨Int.ediv_nonneg h0 (by omega),?_⟩
   have:=Int.ediv_le_self (min w 65535) h0
   omega
end Go.Proofs.YtdoneomahlfkbaaGreat.StrMath
end
section
namespace Go.Proofs.YtdoneomahlfkbaaGreat
open Go.RowKit StrMath
def mix1 (x:Nat):Nat:=(x ^^^ x / 1073741824)*13787848793156543929 % 18446744073709551616
def mix2 (x:Nat):Nat:=(x ^^^ x / 134217728)*10723151780598845931 % 18446744073709551616
def mixN (x:Nat):Nat:=mix2 (mix1 x) ^^^ mix2 (mix1 x) / 2147483648
theorem xor_lt64 {a b:Nat} (ha:a<18446744073709551616) (hb:b<18446744073709551616):a ^^^ b<18446744073709551616:=Nat.xor_lt_two_pow (n:=64) ha hb
theorem mix1_lt (x:Nat):mix1 x<18446744073709551616:=Nat.mod_lt _ (by decide)
theorem mix2_lt (x:Nat):mix2 x<18446744073709551616:=Nat.mod_lt _ (by decide)
theorem mixN_lt (x:Nat):mixN x<18446744073709551616:=by
 have:=mix2_lt (mix1 x)
 exact xor_lt64 this (by omega)
theorem mix_eqs (x:Nat) (hx:x<18446744073709551616):∃a b c d:Nat,
 bits .xor .u64 (x:Int) ((x:Int) / 1073741824)=(a:Int)∧IntKind.u64.wrap ((a:Int)*13787848793156543929)=(b:Int) ∧
 bits .xor .u64 (b:Int) ((b:Int) / 134217728)=(c:Int)∧IntKind.u64.wrap ((c:Int)*10723151780598845931)=(d:Int) ∧
 bits .xor .u64 (d:Int) ((d:Int) / 2147483648)=((mixN x:Nat):Int):=by
 have h1:=mix1_lt x
 have h2:=mix2_lt (mix1 x)
 refine⟨_,mix1 x,_,mix2 (mix1 x),u64_xor_nat x (x / 1073741824) hx (by omega),?_,u64_xor_nat (mix1 x) (mix1 x / 134217728) h1 (by omega),?_,u64_xor_nat (mix2 (mix1 x)) (mix2 (mix1 x) / 2147483648) h2 (by omega)⟩
 · rw [IntKind.wrap_u64];unfold mix1;omega
 · rw [IntKind.wrap_u64];conv=>rhs;unfold mix2
   omega
theorem mix_any (x:Nat) (w:World) (hx:x<18446744073709551616) :
 Calls Tryz.prog 122 #[.int .u64 x] w fun e w'=>e = .returned (.int .u64 (mixN x:Nat))∧w=w':=by
 obtain⟨a,b,c,d,q1,q2,q3,q4,q5⟩:=mix_eqs x hx
 go_enter Tryz.func122,Tryz.ntmps122
 go_wp2
 go_ret
 exact⟨rfl,rfl⟩
def hash1 (a:Nat):Nat:=mixN ((a+11400714819323198485) % 18446744073709551616)
def hashN (a b c:Nat):Nat:=mixN (mixN (hash1 a ^^^ b) ^^^ c)
theorem hash1_lt (a:Nat):hash1 a<18446744073709551616:=mixN_lt _
theorem hashN_lt (a b c:Nat):hashN a b c<18446744073709551616:=mixN_lt _
theorem hash_eqs (a b c:Nat) (hb:b<18446744073709551616) (hc:c<18446744073709551616):∃g p q r:Nat,g<18446744073709551616∧p<18446744073709551616∧q<18446744073709551616∧r<18446744073709551616 ∧
 IntKind.u64.wrap ((a:Int)+11400714819323198485)=(g:Int)∧bits .xor .u64 ((mixN g:Nat):Int) (b:Int)=(p:Int)∧bits .xor .u64 ((mixN p:Nat):Int) (c:Int)=(q:Int)∧mixN q=hashN a b c:=by
 refine⟨(a+11400714819323198485) % 18446744073709551616,hash1 a ^^^ b,mixN (hash1 a ^^^ b) ^^^ c,0,Nat.mod_lt _ (by decide),xor_lt64 (hash1_lt a) hb,xor_lt64 (mixN_lt _) hc,by decide,?_,u64_xor_nat _ b (hash1_lt a) hb,u64_xor_nat _ c (mixN_lt _) hc,rfl⟩
 rw [IntKind.wrap_u64];omega
theorem hash_any (a b c:Nat) (w:World) (hb:b<18446744073709551616) (hc:c<18446744073709551616) :
 Calls Tryz.prog 116 #[.int .u64 a,.int .u64 b,.int .u64 c] w fun e w'=>e = .returned (.int .u64 (hashN a b c:Nat))∧w=w':=by
 obtain⟨g,p,q,r,hg,hp,hq,_,q1,q2,q3,q4⟩:=hash_eqs a b c hb hc
 have Q4:=Lh q4
 clear q4
 go_enter Tryz.func116,Tryz.ntmps116
 go_wp2_with fail
 refine (mix_any g _ hg).mono ?_
 rintro e w' ⟨rfl,rfl⟩
 go_wp2_with fail
 refine (mix_any p _ hp).mono ?_
 rintro e w' ⟨rfl,rfl⟩
 go_wp2_with fail
 refine (mix_any q _ hq).mono ?_
 rintro e w' ⟨rfl,rfl⟩
 rw [Q4.out]
 go_wp2
 go_ret
 exact⟨rfl,rfl⟩
end Go.Proofs.YtdoneomahlfkbaaGreat
end
