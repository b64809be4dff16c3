/- SealBack. -/
import Derived.Test.YtmbbkkonmkbnoaaS12G
set_option linter.unusedVariables false
set_option linter.unusedSimpArgs false
namespace Go.Proofs.Ytmbbkkonmkbnoaa
open Go.RowKit Go.Deep Ae Fm
def F7b (W : World) (gs : Nat) (o : Op12) (An : Option Addr) (cn : Nat) (i : Bool) (L : Nat) : Nat → Value → World → Prop
  | 0, v, _ => v = Value.pointer (some ⟨gs, 0, none⟩)
  | 1, v, _ => v = Value.pointer (some ⟨W.heap.size, 1, none⟩)
  | 2, v, _ => v = Value.int .u8 o.key
  | 3, v, w => PB (32) ((key4 o.key.toNat)) (v) w
  | 4, v, _ => v = Value.slice An 12 cn
  | 5, v, _ => v = Value.pointer (some ⟨W.heap.size, 3, none⟩)
  | 6, v, _ => v = Value.slice o.bA o.bd.length o.bc
  | 7, v, _ => v = Value.pointer (some ⟨W.heap.size, 4, none⟩)
  | 8, v, _ => v = Value.slice o.tA o.td.length o.tc
  | 9, v, w => PT (L) ((sealB (Sr.new i) (key4 o.key.toNat) (nonceL 9 o.nonce.toNat) o.bd o.td)) (0) (sn (v)) w ∧ fs (v) = .bool true
  | 10, v, w => PT (L) ((sealB (Sr.new i) (key4 o.key.toNat) (nonceL 9 o.nonce.toNat) o.bd o.td)) (0) (v) w
  | 11, v, w => PB (L) ((sealB (Sr.new i) (key4 o.key.toNat) (nonceL 9 o.nonce.toNat) o.bd o.td)) (v) w
  | 12, v, _ => v = Value.int .i64 0
  | 13, v, w => PB (L) ((sealB (Sr.new i) (key4 o.key.toNat) (nonceL 9 o.nonce.toNat) o.bd o.td)) (v) w
  | 14, v, _ => v = Value.int .i64 0
  | _, _, _ => True
theorem F7b.kp (W : World) (gs : Nat) (o : Op12) (An : Option Addr) (cn : Nat) (i : Bool) (L : Nat) {T : Nat → Prop} {w w' : World} (kq : Kp T w w') : ∀ j v, F7b W gs o An cn i L j v w → F7b W gs o An cn i L j v w' := by
  intro j v h
  match j, h with
  | 0, h | 1, h | 2, h | 4, h | 5, h | 6, h | 7, h | 8, h | 12, h | 14, h => exact h
  | 3, h => exact PB.kp h kq
  | 9, h => exact ⟨PT.kp h.1 kq, h.2⟩
  | 10, h => exact PT.kp h kq
  | 11, h => exact PB.kp h kq
  | 13, h => exact PB.kp h kq
  | m + 15, _ => trivial
def F11b (gs : Nat) (x : Op12) (mb mo mc : Nat) (ms : List Op12) (k : Nat) (Sz : Sr) (L2 : Nat) : Nat → Value → World → Prop
  | 0, v, _ => v = Value.pointer (some ⟨gs, 0, none⟩)
  | 1, v, _ => v = Value.slice (some ⟨mb, mo, none⟩) ms.length mc
  | 2, v, _ => v = Value.int .i64 (k : Int)
  | 3, v, _ => v = Value.pointer (some ⟨mb, mo + k * 7, none⟩)
  | 4, v, _ => v = Value.pointer (some ⟨mb, mo + k * 7 + 1, none⟩)
  | 5, v, _ => v = Value.int .u8 x.key
  | 6, v, w => PB (32) ((key4 x.key.toNat)) (v) w
  | 7, v, _ => v = Value.slice (some ⟨mb, mo, none⟩) ms.length mc
  | 8, v, _ => v = Value.int .i64 (k : Int)
  | 9, v, _ => v = Value.pointer (some ⟨mb, mo + k * 7, none⟩)
  | 10, v, _ => v = Value.pointer (some ⟨mb, mo + k * 7 + 2, none⟩)
  | 11, v, _ => v = Value.int .u8 x.nonce
  | 12, v, _ => v = Value.int .u64 x.nonce
  | 13, v, w => PB (12) ((nonceL x.nonce.toNat 1)) (v) w
  | 14, v, _ => v = Value.slice (some ⟨mb, mo, none⟩) ms.length mc
  | 15, v, _ => v = Value.int .i64 (k : Int)
  | 16, v, _ => v = Value.pointer (some ⟨mb, mo + k * 7, none⟩)
  | 17, v, _ => v = Value.pointer (some ⟨mb, mo + k * 7 + 3, none⟩)
  | 18, v, _ => v = Value.slice x.bA x.bd.length x.bc
  | 19, v, _ => v = Value.slice (some ⟨mb, mo, none⟩) ms.length mc
  | 20, v, _ => v = Value.int .i64 (k : Int)
  | 21, v, _ => v = Value.pointer (some ⟨mb, mo + k * 7, none⟩)
  | 22, v, _ => v = Value.pointer (some ⟨mb, mo + k * 7 + 4, none⟩)
  | 23, v, _ => v = Value.slice x.tA x.td.length x.tc
  | 24, v, w => PT (L2) ((sealB Sz (key4 x.key.toNat) (nonceL x.nonce.toNat 1) x.bd x.td)) (0) (sn (v)) w ∧ fs (v) = .bool true
  | _, _, _ => True
theorem F11b.kp (gs : Nat) (x : Op12) (mb mo mc : Nat) (ms : List Op12) (k : Nat) (Sz : Sr) (L2 : Nat) {T : Nat → Prop} {w w' : World} (kq : Kp T w w') : ∀ j v, F11b gs x mb mo mc ms k Sz L2 j v w → F11b gs x mb mo mc ms k Sz L2 j v w' := by
  intro j v h
  match j, h with
  | 0, h | 1, h | 2, h | 3, h | 4, h | 5, h | 7, h | 8, h | 9, h | 10, h | 11, h | 12, h | 14, h | 15, h | 16, h | 17, h | 18, h | 19, h | 20, h | 21, h | 22, h | 23, h => exact h
  | 6, h => exact PB.kp h kq
  | 13, h => exact PB.kp h kq
  | 24, h => exact ⟨PT.kp h.1 kq, h.2⟩
  | m + 25, _ => trivial
def F12b (W : World) (gs : Nat) (o : Op12) (An Aq : Option Addr) (cn cq L : Nat) : Nat → Value → World → Prop
  | 0, v, _ => v = Value.pointer (some ⟨gs, 0, none⟩)
  | 1, v, _ => v = Value.pointer (some ⟨W.heap.size, 1, none⟩)
  | 2, v, _ => v = Value.int .u8 o.key
  | 3, v, w => PB (32) ((key4 o.key.toNat)) (v) w
  | 4, v, _ => v = Value.slice An 12 cn
  | 5, v, _ => v = Value.pointer (some ⟨W.heap.size, 3, none⟩)
  | 6, v, _ => v = Value.slice o.bA o.bd.length o.bc
  | 7, v, _ => v = Value.slice Aq L cq
  | 8, v, w => PT (o.td.length) (o.td) (0) (sn (v)) w ∧ fs (v) = .bool true
  | 9, v, w => PT (o.td.length) (o.td) (0) (v) w
  | 10, v, w => PB (o.td.length) (o.td) (v) w
  | 11, v, _ => v = Value.int .i64 0
  | 12, v, w => PB (o.td.length) (o.td) (v) w
  | 13, v, _ => v = Value.int .i64 0
  | _, _, _ => True
theorem F12b.kp (W : World) (gs : Nat) (o : Op12) (An Aq : Option Addr) (cn cq L : Nat) {T : Nat → Prop} {w w' : World} (kq : Kp T w w') : ∀ j v, F12b W gs o An Aq cn cq L j v w → F12b W gs o An Aq cn cq L j v w' := by
  intro j v h
  match j, h with
  | 0, h | 1, h | 2, h | 4, h | 5, h | 6, h | 7, h | 11, h | 13, h => exact h
  | 3, h => exact PB.kp h kq
  | 8, h => exact ⟨PT.kp h.1 kq, h.2⟩
  | 9, h => exact PT.kp h kq
  | 10, h => exact PB.kp h kq
  | 12, h => exact PB.kp h kq
  | m + 14, _ => trivial
/-- One act, laid in a row of one. -/
theorem ops_one {w : World} {o : Op12} {B : Nat} (h : Op12.Ok w (fun b => b < B) o) : Op12s (w.alloc (.cells #[.int .i64 o.kind, .int .u8 o.key, .int .u8 o.nonce, .slice o.bA o.bd.length o.bc, .slice o.tA o.td.length o.tc, .int .u16 o.turn, .bool o.short] 58)) Any B (.slice (some ⟨w.heap.size, 0, none⟩) 1 1) [o] := by
  refine ⟨⟨rfl, _, _, rfl, Nat.le_refl _, by simp [maxLen], fun _ => ⟨w.heap.size, 0, rfl, trivial, fun j u hu => ?_⟩⟩, fun x hx => ?_⟩
  · have e : [o].flatMap Op12.cs = o.cs := by simp
    rw [e] at hu
    rw [Nat.zero_add, (Blk.new w _ _).cell]
    show o.cs.toArray[j]? = some u
    simpa using hu
  · rw [List.mem_singleton.1 hx]; exact h.ext_no ((Ext.refl No w).alloc _)
set_option pp.deepTerms true in
set_option pp.maxSteps 1000000 in
set_option maxRecDepth 100000 in
set_option maxHeartbeats 8000000 in
theorem back12_any (i : Bool) (o : Op12) (mv : Value) (ms : List Op12) (W : World) (ho : Op12.Ok W (fun b => b < W.heap.size) o) (hm : Op12s W Any W.heap.size mv ms) :
    Calls Try.prog 8 #[.bool i, .agg #[.int .i64 o.kind, .int .u8 o.key, .int .u8 o.nonce, .slice o.bA o.bd.length o.bc, .slice o.tA o.td.length o.tc, .int .u16 o.turn, .bool o.short], mv] W fun e W' => e = .returned (.bool true) ∧ Ext No W W' := by
  obtain ⟨mA, mc, rfl, hmc, hmm, mb, mo, hrow⟩ := hm.slice
  unfold maxLen at hmm
  have HX0 : Hid (Ext No W (W.alloc (.cells #[.int .i64 o.kind, .int .u8 o.key, .int .u8 o.nonce, .slice o.bA o.bd.length o.bc, .slice o.tA o.td.length o.tc, .int .u16 o.turn, .bool o.short] 58))) := Lib.hid ((Ext.refl No W).alloc _)
  have hbx := Blk.new W 58 #[.int .i64 o.kind, .int .u8 o.key, .int .u8 o.nonce, .slice o.bA o.bd.length o.bc, .slice o.tA o.td.length o.tc, .int .u16 o.turn, .bool o.short]
  have HOK := Lib.hid ho
  have HM := Lib.hid hm
  have HROW := Lib.hid hrow
  have HBXB := Lib.hid hbx
  have hbq := hbx
  have ho1 := ops_one (ho.ext_no HX0.out)
  rw [World.size_alloc] at ho1
  have HO1 := Lib.hid ho1
  clear ho hm hrow hbx hbq ho1
  obtain ⟨qa, hqa⟩ : ∃ q, decide (Light 1 [o]) = q := ⟨_, rfl⟩
  obtain ⟨qb, hqb⟩ : ∃ q, decide (Light 10 ms) = q := ⟨_, rfl⟩
  have HQA := Lib.hid hqa
  have HQB := Lib.hid hqb
  clear hqa hqb
  cases qa with
  | false =>
    go_enter Try.func8, Try.ntmps8
    go_wp2_with (first
      | ((with_reducible show wpList _ _ _ (⟨some 14, _, _, _, _, _⟩ :: _) _ _); go_must (refine load_blk 58 (.tmp 4) rfl rfl HBXB.out rfl _ Try.underlying58 rfl size_op12 ?_))
      | (go_at_call 32; (with_reducible refine (lLight1 _ [o] W.heap.size false HQA.out _ HO1.out).mono ?_); rintro e1 w1 ⟨rfl, hx⟩; have HX1 := Lib.hid ((HX0.out.alloc _).trans hx); clear hx)
      | (go_at_call 33; (with_reducible refine (lWorks12 _).mono ?_); rintro e2 w2 ⟨rfl, hx⟩; have HX2 := Lib.hid (HX1.out.trans hx); clear hx))
    go_ret
    exact ⟨rfl, HX2.out⟩
  | true =>
    cases qb with
    | false =>
      go_enter Try.func8, Try.ntmps8
      go_wp2_with (first
      | ((with_reducible show wpList _ _ _ (⟨some 14, _, _, _, _, _⟩ :: _) _ _); go_must (refine load_blk 58 (.tmp 4) rfl rfl HBXB.out rfl _ Try.underlying58 rfl size_op12 ?_))
        | (go_at_call 32; (with_reducible refine (lLight1 _ [o] W.heap.size true HQA.out _ HO1.out).mono ?_); rintro e1 w1 ⟨rfl, hx⟩; have HX1 := Lib.hid ((HX0.out.alloc _).trans hx); clear hx)
        | (go_at_call 32; (with_reducible refine (lLight10 _ ms W.heap.size false HQB.out _ (HM.out.ext_no HX1.out)).mono ?_); rintro e3 w3 ⟨rfl, hx⟩; have HX3 := Lib.hid (HX1.out.trans hx); clear hx)
        | (go_at_call 33; (with_reducible refine (lWorks12 _).mono ?_); rintro e2 w2 ⟨rfl, hx⟩; have HX2 := Lib.hid (HX3.out.trans hx); clear hx))
      go_ret
      exact ⟨rfl, HX2.out⟩
    | true =>
      have HLO := Lib.hid (of_decide_eq_true HQA.out)
      have HLM := Lib.hid (of_decide_eq_true HQB.out)
      have HKEY := Lib.hid HOK.out.key
      have HNON := Lib.hid HOK.out.nonce
      have hmod : o.nonce % 4294967296 = o.nonce := by have := HNON.out; omega
      go_enter Try.func8, Try.ntmps8
      go_wp2_with (first
      | ((with_reducible show wpList _ _ _ (⟨some 14, _, _, _, _, _⟩ :: _) _ _); go_must (refine load_blk 58 (.tmp 4) rfl rfl HBXB.out rfl _ Try.underlying58 rfl size_op12 ?_))
        | (go_at_call 32; (with_reducible refine (lLight1 _ [o] W.heap.size true HQA.out _ HO1.out).mono ?_); rintro e1 w1 ⟨rfl, hx⟩; have HX1b := Lib.hid (((Ext.refl No _).alloc _).trans hx); have HX1 := Lib.hid (HX0.out.trans HX1b.out); clear hx)
        | (go_at_call 32; (with_reducible refine (lLight10 _ ms W.heap.size true HQB.out _ (HM.out.ext_no HX1.out)).mono ?_); rintro e3 w3 ⟨rfl, hx⟩; have HX3 := Lib.hid (HX1.out.trans hx); have HX3b := Lib.hid (HX1b.out.trans hx); clear hx)
        | (go_at_call 16; (with_reducible refine (sNew_any i _).mono ?_); rintro e4 w4 ⟨gs, F4, rfl, hs, hx, hF⟩; have HS4 : Hid (Sl1 (W.alloc (.cells #[.int .i64 o.kind, .int .u8 o.key, .int .u8 o.nonce, .slice o.bA o.bd.length o.bc, .slice o.tA o.td.length o.tc, .int .u16 o.turn, .bool o.short] 58)) w4 gs F4 (Sr.new i)) := Lib.hid (Sl1.new hs HX3b.out hx hF); have b2 := (HBXB.out.ext_no HS4.out.x).cell 2; clear hs hx hF)
        | (go_at_call 34; (with_reducible refine (lNonce9' o.nonce HNON.out.1 HNON.out.2 _).mono ?_); rintro e5 w5 ⟨nv, rfl, ⟨An, cn, rfl, hp⟩, hx⟩; have HS5 := Lib.hid (HS4.out.no hx); have HN5 := Lib.hid hp; clear hp hx b2))
      have HBX : Hid (∀ wx, Ext No (W.alloc (.cells #[.int .i64 o.kind, .int .u8 o.key, .int .u8 o.nonce, .slice o.bA o.bd.length o.bc, .slice o.tA o.td.length o.tc, .int .u16 o.turn, .bool o.short] 58)) wx → wx.cell? ⟨W.heap.size, 1, none⟩ = some (.int .u8 o.key) ∧ wx.cell? ⟨W.heap.size, 2, none⟩ = some (.int .u8 o.nonce) ∧ wx.cell? ⟨W.heap.size, 3, none⟩ = some (.slice o.bA o.bd.length o.bc) ∧ wx.cell? ⟨W.heap.size, 4, none⟩ = some (.slice o.tA o.td.length o.tc) ∧ W.heap.size < wx.heap.size) := Lib.hid (fun wx hx => by have h := HBXB.out.ext_no hx; exact ⟨h.cell 1, h.cell 2, h.cell 3, h.cell 4, h.lt⟩)
      have HBT : Hid (Bs (W.alloc (.cells #[.int .i64 o.kind, .int .u8 o.key, .int .u8 o.nonce, .slice o.bA o.bd.length o.bc, .slice o.tA o.td.length o.tc, .int .u16 o.turn, .bool o.short] 58)) Any (.slice o.bA o.bd.length o.bc) o.bd ∧ Bs (W.alloc (.cells #[.int .i64 o.kind, .int .u8 o.key, .int .u8 o.nonce, .slice o.bA o.bd.length o.bc, .slice o.tA o.td.length o.tc, .int .u16 o.turn, .bool o.short] 58)) Any (.slice o.tA o.td.length o.tc) o.td) := Lib.hid ⟨(HOK.out.b.ext_no HX0.out).any, (HOK.out.t.ext_no HX0.out).any⟩
      have HBD : Hid (o.bd.length ≤ 100000 ∧ o.td.length ≤ 80000) := Lib.hid (by have h := HLO.out.2 o (List.mem_singleton.2 rfl); omega)
      have HBK : Hid ((Sr.new i).book.length ≤ 100000 ∧ (Sr.new i).count ≤ 100000) := Lib.hid ⟨by simp [Sr.new], by simp [Sr.new]⟩
      obtain ⟨L, hL⟩ : ∃ L, o.td.length + 16 = L := ⟨_, rfl⟩
      have HLL := Lib.hid hL
      clear hmod hL
      refine RF.region (vs := fun | 9 => .tuple #[.bool false, undef] | _ => undef) rfl (fun vs => ((Value.bool i) :: (Value.agg #[Value.int IntKind.i64 o.kind, Value.int IntKind.u8 o.key, Value.int IntKind.u8 o.nonce, Value.slice o.bA o.bd.length o.bc, Value.slice o.tA o.td.length o.tc, Value.int IntKind.u16 o.turn, Value.bool o.short]) :: (Value.slice mA ms.length mc) :: undef :: (Value.pointer (some ⟨W.heap.size, 0, none⟩)) :: undef :: (Value.bool false) :: (sp gs) :: (Value.slice An 12 cn) :: (vs 13) :: (vs 14) :: undef :: undef :: undef :: (Value.agg #[Value.int IntKind.i64 o.kind, Value.int IntKind.u8 o.key, Value.int IntKind.u8 o.nonce, Value.slice o.bA o.bd.length o.bc, Value.slice o.tA o.td.length o.tc, Value.int IntKind.u16 o.turn, Value.bool o.short]) :: (Value.slice (some ⟨W.heap.size + 1, 0, none⟩) 1 1) :: (Value.bool true) :: (Value.bool false) :: (Value.bool false) :: (Value.slice mA ms.length mc) :: (Value.bool true) :: (Value.bool false) :: (Value.bool false) :: undef :: (Value.bool i) :: (sp gs) :: (sp gs) :: (Value.bool false) :: (Value.pointer (some ⟨W.heap.size, 2, none⟩)) :: (Value.int IntKind.u8 o.nonce) :: (Value.int IntKind.u32 o.nonce) :: (Value.slice An 12 cn) :: (vs 10) :: (vs 0) :: (vs 1) :: (vs 2) :: (vs 3) :: (vs 4) :: (vs 5) :: (vs 6) :: (vs 7) :: (vs 8) :: (sn (vs 9)) :: (vs 11) :: (vs 12) :: undef :: undef :: undef :: undef :: undef :: undef :: undef :: undef :: undef :: undef :: undef :: undef :: undef :: undef :: undef :: undef :: undef :: undef :: undef :: undef :: undef :: undef :: undef :: undef :: undef :: undef :: undef :: undef :: undef :: undef :: undef :: undef :: undef :: undef :: undef :: undef :: undef :: undef :: undef :: undef :: undef :: undef :: undef :: undef :: undef :: undef :: undef :: undef :: undef :: undef :: undef :: undef :: undef :: undef :: undef :: undef :: undef :: undef :: undef :: undef :: undef :: undef :: undef :: undef :: undef :: undef :: undef :: []).toArray)
        (F7b W gs o An cn i L) (fun vs wz => GQ (W.alloc (.cells #[.int .i64 o.kind, .int .u8 o.key, .int .u8 o.nonce, .slice o.bA o.bd.length o.bc, .slice o.tA o.td.length o.tc, .int .u16 o.turn, .bool o.short] 58)) gs F4 (Sr.new i) (sealSr (Sr.new i) (key4 o.key.toNat) (nonceL 9 o.nonce.toNat) o.bd o.td) (fun w => By w (.slice An 12 cn) (nonceL 9 o.nonce.toNat)) (vs 9) wz) rfl (by kernel_rfl) ?_ ?_ ?_
      · exact GQ.start HS5.out (HN5.out.ext_no ((Ext.refl No _).drew)) _
      · refine ⟨⟨⟨⟨⟨⟨⟨⟨⟨⟨⟨⟨⟨⟨⟨trivial, ?_⟩, ?_⟩, ?_⟩, ?_⟩, ?_⟩, ?_⟩, ?_⟩, ?_⟩, ?_⟩, ?_⟩, ?_⟩, ?_⟩, ?_⟩, ?_⟩, ?_⟩
        · refine RF.Step.plain rfl rfl (fun vs wx hG hv hd K hK => ?_)
          have HG0 := Lib.hid hG
          clear hG
          go_simp
          have hfin := hK _ _ HG0.out rfl (fun _ _ h => h)
          first | exact hfin | (simpa only [RF.upd, sn_mk, Nat.reduceEqDiff, if_true, if_false, reduceIte] using hfin) | (simp only [RF.upd, sn_mk, Nat.reduceEqDiff, if_true, if_false, reduceIte] at hfin ⊢; exact hfin)
        · refine RF.Step.plain rfl rfl (fun vs wx hG hv hd K hK => ?_)
          obtain ⟨q1, q2, q3, q4, qg⟩ := HBX.out wx hG.x
          have HG0 := Lib.hid hG
          clear hG
          go_simp
          have hfin := hK _ _ HG0.out rfl (fun _ _ h => h)
          first | exact hfin | (simpa only [RF.upd, sn_mk, Nat.reduceEqDiff, if_true, if_false, reduceIte] using hfin) | (simp only [RF.upd, sn_mk, Nat.reduceEqDiff, if_true, if_false, reduceIte] at hfin ⊢; exact hfin)
        · refine RF.Step.plain rfl rfl (fun vs wx hG hv hd K hK => ?_)
          have h0 : vs 1 = Value.pointer (some ⟨W.heap.size, 1, none⟩) := by first | exact hd.1 | exact hd.2.1 | exact hd.2.2.1 | exact hd.2.2.2.1 | exact hd.2.2.2.2.1
          obtain ⟨q1, q2, q3, q4, qg⟩ := HBX.out wx hG.x
          have HG0 := Lib.hid hG
          clear hG
          go_simp
          have hfin := hK _ _ HG0.out rfl (fun _ _ h => h)
          first | exact hfin | (simpa only [RF.upd, sn_mk, h0, Nat.reduceEqDiff, if_true, if_false, reduceIte] using hfin) | (simp only [RF.upd, sn_mk, h0, Nat.reduceEqDiff, if_true, if_false, reduceIte] at hfin ⊢; exact hfin)
        · refine RF.Step.plain rfl rfl (fun vs wx hG hv hd K hK => ?_)
          have h0 : vs 2 = Value.int .u8 o.key := by first | exact hd.1 | exact hd.2.1 | exact hd.2.2.1 | exact hd.2.2.2.1 | exact hd.2.2.2.2.1
          go_simp
          refine (lKey4' o.key HKEY.out.1 HKEY.out.2 _).mono ?_
          rintro e_ w' ⟨r, rfl, hp, hx⟩
          have hfin := hK r _ (hG.no hx (fun T a b k h => By.kp h k)) hp (fun j_ _ h => F7b.kp W gs o An cn i L (Kp.no hx) j_ _ h)
          first | exact hfin | (simpa only [RF.upd, sn_mk, h0, Nat.reduceEqDiff, if_true, if_false, reduceIte] using hfin) | (simp only [RF.upd, sn_mk, h0, Nat.reduceEqDiff, if_true, if_false, reduceIte] at hfin ⊢; exact hfin)
        · refine RF.Step.plain rfl rfl (fun vs wx hG hv hd K hK => ?_)
          have HG0 := Lib.hid hG
          clear hG
          go_simp
          have hfin := hK _ _ HG0.out rfl (fun _ _ h => h)
          first | exact hfin | (simpa only [RF.upd, sn_mk, Nat.reduceEqDiff, if_true, if_false, reduceIte] using hfin) | (simp only [RF.upd, sn_mk, Nat.reduceEqDiff, if_true, if_false, reduceIte] at hfin ⊢; exact hfin)
        · refine RF.Step.plain rfl rfl (fun vs wx hG hv hd K hK => ?_)
          obtain ⟨q1, q2, q3, q4, qg⟩ := HBX.out wx hG.x
          have HG0 := Lib.hid hG
          clear hG
          go_simp
          have hfin := hK _ _ HG0.out rfl (fun _ _ h => h)
          first | exact hfin | (simpa only [RF.upd, sn_mk, Nat.reduceEqDiff, if_true, if_false, reduceIte] using hfin) | (simp only [RF.upd, sn_mk, Nat.reduceEqDiff, if_true, if_false, reduceIte] at hfin ⊢; exact hfin)
        · refine RF.Step.plain rfl rfl (fun vs wx hG hv hd K hK => ?_)
          have h0 : vs 5 = Value.pointer (some ⟨W.heap.size, 3, none⟩) := by first | exact hd.1 | exact hd.2.1 | exact hd.2.2.1 | exact hd.2.2.2.1 | exact hd.2.2.2.2.1
          obtain ⟨q1, q2, q3, q4, qg⟩ := HBX.out wx hG.x
          have HG0 := Lib.hid hG
          clear hG
          go_simp
          have hfin := hK _ _ HG0.out rfl (fun _ _ h => h)
          first | exact hfin | (simpa only [RF.upd, sn_mk, h0, Nat.reduceEqDiff, if_true, if_false, reduceIte] using hfin) | (simp only [RF.upd, sn_mk, h0, Nat.reduceEqDiff, if_true, if_false, reduceIte] at hfin ⊢; exact hfin)
        · refine RF.Step.plain rfl rfl (fun vs wx hG hv hd K hK => ?_)
          obtain ⟨q1, q2, q3, q4, qg⟩ := HBX.out wx hG.x
          have HG0 := Lib.hid hG
          clear hG
          go_simp
          have hfin := hK _ _ HG0.out rfl (fun _ _ h => h)
          first | exact hfin | (simpa only [RF.upd, sn_mk, Nat.reduceEqDiff, if_true, if_false, reduceIte] using hfin) | (simp only [RF.upd, sn_mk, Nat.reduceEqDiff, if_true, if_false, reduceIte] at hfin ⊢; exact hfin)
        · refine RF.Step.plain rfl rfl (fun vs wx hG hv hd K hK => ?_)
          have h0 : vs 7 = Value.pointer (some ⟨W.heap.size, 4, none⟩) := by first | exact hd.1 | exact hd.2.1 | exact hd.2.2.1 | exact hd.2.2.2.1 | exact hd.2.2.2.2.1
          obtain ⟨q1, q2, q3, q4, qg⟩ := HBX.out wx hG.x
          have HG0 := Lib.hid hG
          clear hG
          go_simp
          have hfin := hK _ _ HG0.out rfl (fun _ _ h => h)
          first | exact hfin | (simpa only [RF.upd, sn_mk, h0, Nat.reduceEqDiff, if_true, if_false, reduceIte] using hfin) | (simp only [RF.upd, sn_mk, h0, Nat.reduceEqDiff, if_true, if_false, reduceIte] at hfin ⊢; exact hfin)
        · refine RF.Step.plain rfl rfl (fun vs wx hG hv hd K hK => ?_)
          have h0 : vs 0 = Value.pointer (some ⟨gs, 0, none⟩) := by first | exact hd.1 | exact hd.2.1 | exact hd.2.2.1 | exact hd.2.2.2.1 | exact hd.2.2.2.2.1
          obtain ⟨A1_, c1_, h1, hb1⟩ : PB (32) ((key4 o.key.toNat)) (vs 3) wx := by first | exact hd.1 | exact hd.2.1 | exact hd.2.2.1 | exact hd.2.2.2.1 | exact hd.2.2.2.2.1
          have h2 : vs 4 = Value.slice An 12 cn := by first | exact hd.1 | exact hd.2.1 | exact hd.2.2.1 | exact hd.2.2.2.1 | exact hd.2.2.2.2.1
          have h3 : vs 6 = Value.slice o.bA o.bd.length o.bc := by first | exact hd.1 | exact hd.2.1 | exact hd.2.2.1 | exact hd.2.2.2.1 | exact hd.2.2.2.2.1
          have h4 : vs 8 = Value.slice o.tA o.td.length o.tc := by first | exact hd.1 | exact hd.2.1 | exact hd.2.2.1 | exact hd.2.2.2.1 | exact hd.2.2.2.2.1
          go_simp
          refine (aSealL HLL.out (hG.old (by rw [hv]; rfl)) hb1.any hG.ex.any (HBT.out.1.ext_no hG.x) (HBT.out.2.ext_no hG.x) (key4_length _) (nonceL_length _ _) HBD.out.1 HBD.out.2 HBK.out.1 HBK.out.2).mono ?_
          rintro e_ w' ⟨A_, c_, F', rfl, hb, hs, hx, hF⟩
          obtain ⟨k1, k2⟩ := hG.done (by rw [hv]; rfl) hs hx hF (fun T a b k h => By.kp h k) (.tuple #[.slice A_ (L) c_, .int .i64 (0)])
          have hfin := hK (.tuple #[.bool true, .tuple #[.slice A_ (L) c_, .int .i64 (0)]]) w' k1 ⟨⟨A_, c_, rfl, hb⟩, rfl⟩ (fun j_ _ h => F7b.kp W gs o An cn i L k2 j_ _ h)
          first | exact hfin | (simpa only [RF.upd, sn_mk, h0, h1, h2, h3, h4, Nat.reduceEqDiff, if_true, if_false, reduceIte] using hfin) | (simp only [RF.upd, sn_mk, h0, h1, h2, h3, h4, Nat.reduceEqDiff, if_true, if_false, reduceIte] at hfin ⊢; exact hfin)
        · refine RF.Step.plain rfl rfl (fun vs wx hG hv hd K hK => ?_)
          obtain ⟨⟨A0_, c0_, h0, hb0⟩, -⟩ : PT (L) ((sealB (Sr.new i) (key4 o.key.toNat) (nonceL 9 o.nonce.toNat) o.bd o.td)) (0) (sn (vs 9)) wx ∧ fs (vs 9) = .bool true := by first | exact hd.1 | exact hd.2.1 | exact hd.2.2.1 | exact hd.2.2.2.1 | exact hd.2.2.2.2.1
          have HB0 := Lib.hid hb0
          clear hb0
          have HG0 := Lib.hid hG
          clear hG
          go_simp
          have hfin := hK (.tuple #[.slice A0_ (L) c0_, .int .i64 (0)]) _ HG0.out ⟨_, _, rfl, HB0.out⟩ (fun _ _ h => h)
          first | exact hfin | (simpa only [RF.upd, sn_mk, h0, Nat.reduceEqDiff, if_true, if_false, reduceIte] using hfin) | (simp only [RF.upd, sn_mk, h0, Nat.reduceEqDiff, if_true, if_false, reduceIte] at hfin ⊢; exact hfin)
        · refine RF.Step.plain rfl rfl (fun vs wx hG hv hd K hK => ?_)
          obtain ⟨A0_, c0_, h0, hb0⟩ : PT (L) ((sealB (Sr.new i) (key4 o.key.toNat) (nonceL 9 o.nonce.toNat) o.bd o.td)) (0) (vs 10) wx := by first | exact hd.1 | exact hd.2.1 | exact hd.2.2.1 | exact hd.2.2.2.1 | exact hd.2.2.2.2.1
          have HB0 := Lib.hid hb0
          clear hb0
          have HG0 := Lib.hid hG
          clear hG
          go_simp
          have hfin := hK (.slice A0_ (L) c0_) _ HG0.out ⟨_, _, rfl, HB0.out⟩ (fun _ _ h => h)
          first | exact hfin | (simpa only [RF.upd, sn_mk, h0, Nat.reduceEqDiff, if_true, if_false, reduceIte] using hfin) | (simp only [RF.upd, sn_mk, h0, Nat.reduceEqDiff, if_true, if_false, reduceIte] at hfin ⊢; exact hfin)
        · refine RF.Step.plain rfl rfl (fun vs wx hG hv hd K hK => ?_)
          obtain ⟨A0_, c0_, h0, hb0⟩ : PT (L) ((sealB (Sr.new i) (key4 o.key.toNat) (nonceL 9 o.nonce.toNat) o.bd o.td)) (0) (vs 10) wx := by first | exact hd.1 | exact hd.2.1 | exact hd.2.2.1 | exact hd.2.2.2.1 | exact hd.2.2.2.2.1
          clear hb0
          have HG0 := Lib.hid hG
          clear hG
          go_simp
          have hfin := hK _ _ HG0.out rfl (fun _ _ h => h)
          first | exact hfin | (simpa only [RF.upd, sn_mk, h0, Nat.reduceEqDiff, if_true, if_false, reduceIte] using hfin) | (simp only [RF.upd, sn_mk, h0, Nat.reduceEqDiff, if_true, if_false, reduceIte] at hfin ⊢; exact hfin)
        · refine RF.Step.plain rfl rfl (fun vs wx hG hv hd K hK => ?_)
          obtain ⟨A0_, c0_, h0, hb0⟩ : PB (L) ((sealB (Sr.new i) (key4 o.key.toNat) (nonceL 9 o.nonce.toNat) o.bd o.td)) (vs 11) wx := by first | exact hd.1 | exact hd.2.1 | exact hd.2.2.1 | exact hd.2.2.2.1 | exact hd.2.2.2.2.1
          have HB0 := Lib.hid hb0
          clear hb0
          have HG0 := Lib.hid hG
          clear hG
          go_simp
          have hfin := hK (.slice A0_ (L) c0_) _ HG0.out ⟨_, _, rfl, HB0.out⟩ (fun _ _ h => h)
          first | exact hfin | (simpa only [RF.upd, sn_mk, h0, Nat.reduceEqDiff, if_true, if_false, reduceIte] using hfin) | (simp only [RF.upd, sn_mk, h0, Nat.reduceEqDiff, if_true, if_false, reduceIte] at hfin ⊢; exact hfin)
        · refine RF.Step.plain rfl rfl (fun vs wx hG hv hd K hK => ?_)
          have h0 : vs 12 = Value.int .i64 0 := by first | exact hd.1 | exact hd.2.1 | exact hd.2.2.1 | exact hd.2.2.2.1 | exact hd.2.2.2.2.1
          have HG0 := Lib.hid hG
          clear hG
          go_simp
          have hfin := hK _ _ HG0.out rfl (fun _ _ h => h)
          first | exact hfin | (simpa only [RF.upd, sn_mk, h0, Nat.reduceEqDiff, if_true, if_false, reduceIte] using hfin) | (simp only [RF.upd, sn_mk, h0, Nat.reduceEqDiff, if_true, if_false, reduceIte] at hfin ⊢; exact hfin)
      · intro vsA wA hG hF
        obtain ⟨Aq, cq, e13, hb13⟩ : PB L (sealB (Sr.new i) (key4 o.key.toNat) (nonceL 9 o.nonce.toNat) o.bd o.td) (vsA 13) wA := hF 13 (by decide)
        have e14 : vsA 14 = Value.int .i64 0 := hF 14 (by decide)
        obtain ⟨F5, hs5⟩ := hG.new_ (hF 9 (by decide)).2
        have HSA : Hid (Sl1 (W.alloc (.cells #[.int .i64 o.kind, .int .u8 o.key, .int .u8 o.nonce, .slice o.bA o.bd.length o.bc, .slice o.tA o.td.length o.tc, .int .u16 o.turn, .bool o.short] 58)) wA gs F5 (sealSr (Sr.new i) (key4 o.key.toNat) (nonceL 9 o.nonce.toNat) o.bd o.td)) := Lib.hid hs5
        have HNA : Hid (By wA (.slice An 12 cn) (nonceL 9 o.nonce.toNat)) := Lib.hid hG.ex
        have HBA := Lib.hid hb13
        obtain ⟨SB, hSB⟩ : ∃ l, sealB (Sr.new i) (key4 o.key.toNat) (nonceL 9 o.nonce.toNat) o.bd o.td = l := ⟨_, rfl⟩
        have HSB := Lib.hid hSB
        rw [hSB] at HBA
        have HB0 : Hid (BkI i ⟨key4 o.key.toNat, nonceL 9 o.nonce.toNat, o.bd, o.td, SB⟩ 0 (sealSr (Sr.new i) (key4 o.key.toNat) (nonceL 9 o.nonce.toNat) o.bd o.td)) := Lib.hid ⟨by rw [sealSr_ideal]; rfl, ⟨[], by rw [sealSr_book, hSB]; rfl, rfl, by simp⟩, Nat.le_trans (sealSr_count _ _ _ _ _) (by simp [Sr.new])⟩
        have hml : ms.length ≤ 10 := HLM.out.1
        rw [e13, e14]
        clear hSB hF hG e13 e14 hs5 hb13
        go_wp2
        go_loopw [11] (fun iv wr => ∃ k : Nat, k ≤ ms.length ∧ iv = .int .i64 k ∧ Hid (∃ F S, Sl1 (W.alloc (.cells #[.int .i64 o.kind, .int .u8 o.key, .int .u8 o.nonce, .slice o.bA o.bd.length o.bc, .slice o.tA o.td.length o.tc, .int .u16 o.turn, .bool o.short] 58)) wr gs F S ∧ BkI i ⟨key4 o.key.toNat, nonceL 9 o.nonce.toNat, o.bd, o.td, SB⟩ k S) ∧ Hid (By wr (.slice An 12 cn) (nonceL 9 o.nonce.toNat)) ∧ Hid (By wr (.slice Aq L cq) SB)) (fun iv _ => ms.length - (intOf iv).toNat)
        case atStart => exact ⟨0, by omega, rfl, Lib.hid ⟨_, _, HSA.out, HB0.out⟩, HNA, HBA⟩
        case round =>
          obtain ⟨k, hk, rfl, HST, HNR, HBR⟩ := hrel
          obtain ⟨Fz, Sz, hsz, hbz⟩ := HST.out
          have HSZ := Lib.hid hsz
          have HBZ := Lib.hid hbz
          clear hsz hbz HST
          by_cases hlt : k < ms.length
          · obtain ⟨hA0, -, hbl, hr, hxo⟩ := HROW.out k hlt
            have HMEM := Lib.hid (HLM.out.2 _ (List.getElem_mem hlt))
            obtain ⟨x, hx⟩ : ∃ x, ms[k] = x := ⟨_, rfl⟩
            rw [hx] at hr hxo HMEM
            subst hA0
            have HRC : Hid (∀ wx, Ext No (W.alloc (.cells #[.int .i64 o.kind, .int .u8 o.key, .int .u8 o.nonce, .slice o.bA o.bd.length o.bc, .slice o.tA o.td.length o.tc, .int .u16 o.turn, .bool o.short] 58)) wx → wx.cell? ⟨mb, mo + k * 7 + 1, none⟩ = some (.int .u8 x.key) ∧ wx.cell? ⟨mb, mo + k * 7 + 2, none⟩ = some (.int .u8 x.nonce) ∧ wx.cell? ⟨mb, mo + k * 7 + 3, none⟩ = some (.slice x.bA x.bd.length x.bc) ∧ wx.cell? ⟨mb, mo + k * 7 + 4, none⟩ = some (.slice x.tA x.td.length x.tc)) := Lib.hid (fun wx hx => by
              have h := range_ext' hr (HX0.out.trans hx) hbl (fun h => h)
              exact ⟨h 1 _ rfl, h 2 _ rfl, h 3 _ rfl, h 4 _ rfl⟩)
            have HXK := Lib.hid hxo.key
            have HXN := Lib.hid hxo.nonce
            have HM64 : Hid (IntKind.u64.wrap x.nonce = x.nonce) := Lib.hid (by have := hxo.nonce; rw [IntKind.wrap_u64]; omega)
            have HXB : Hid (Bs (W.alloc (.cells #[.int .i64 o.kind, .int .u8 o.key, .int .u8 o.nonce, .slice o.bA o.bd.length o.bc, .slice o.tA o.td.length o.tc, .int .u16 o.turn, .bool o.short] 58)) Any (.slice x.bA x.bd.length x.bc) x.bd ∧ Bs (W.alloc (.cells #[.int .i64 o.kind, .int .u8 o.key, .int .u8 o.nonce, .slice o.bA o.bd.length o.bc, .slice o.tA o.td.length o.tc, .int .u16 o.turn, .bool o.short] 58)) Any (.slice x.tA x.td.length x.tc) x.td) := Lib.hid ⟨(hxo.b.ext_no HX0.out).any, (hxo.t.ext_no HX0.out).any⟩
            have HXD : Hid (x.bd.length ≤ 100000 ∧ x.td.length ≤ 80000) := Lib.hid (by have := HMEM.out; omega)
            have HXS : Hid (Sz.book.length ≤ 100000 ∧ Sz.count ≤ 100000) := Lib.hid (by have h1 := HBZ.out.len; have h2 := HBZ.out.c; omega)
            have HXT : Hid (x.td.length ≤ 100000) := Lib.hid (by have := HMEM.out; omega)
            obtain ⟨L2, hL2⟩ : ∃ L, x.td.length + 16 = L := ⟨_, rfl⟩
            have HL2 := Lib.hid hL2
            have k0 : (0 : Int) ≤ (k : Int) := by omega
            have k1 : (k : Int) < (ms.length : Int) := by omega
            clear hr hxo hx hL2
            go_wp2_with fail
            refine RF.region (vs := fun | 0 => u51 | 1 => u52 | 2 => u53 | 3 => u54 | 4 => u55 | 5 => u56 | 6 => u57 | 7 => u58 | 8 => u59 | 9 => u60 | 10 => u61 | 11 => u62 | 12 => u63 | 13 => u64 | 14 => u65 | 15 => u66 | 16 => u67 | 17 => u68 | 18 => u69 | 19 => u70 | 20 => u71 | 21 => u72 | 22 => u73 | 23 => u74 | 24 => .tuple #[.bool false, u75] | _ => undef) rfl (fun vs => ((Value.bool i) :: (Value.agg #[Value.int IntKind.i64 o.kind, Value.int IntKind.u8 o.key, Value.int IntKind.u8 o.nonce, Value.slice o.bA o.bd.length o.bc, Value.slice o.tA o.td.length o.tc, Value.int IntKind.u16 o.turn, Value.bool o.short]) :: (Value.slice (some ⟨mb, mo, none⟩) ms.length mc) :: undef :: (Value.pointer (some ⟨W.heap.size, 0, none⟩)) :: undef :: (Value.bool false) :: (sp gs) :: (Value.slice An 12 cn) :: (Value.slice Aq L cq) :: (Value.int IntKind.i64 0) :: (Value.int IntKind.i64 (k : Int)) :: undef :: undef :: (Value.agg #[Value.int IntKind.i64 o.kind, Value.int IntKind.u8 o.key, Value.int IntKind.u8 o.nonce, Value.slice o.bA o.bd.length o.bc, Value.slice o.tA o.td.length o.tc, Value.int IntKind.u16 o.turn, Value.bool o.short]) :: (Value.slice (some ⟨W.heap.size + 1, 0, none⟩) 1 1) :: (Value.bool true) :: (Value.bool false) :: (Value.bool false) :: (Value.slice (some ⟨mb, mo, none⟩) ms.length mc) :: (Value.bool true) :: (Value.bool false) :: (Value.bool false) :: undef :: (Value.bool i) :: (sp gs) :: (sp gs) :: (Value.bool false) :: (Value.pointer (some ⟨W.heap.size, 2, none⟩)) :: (Value.int IntKind.u8 o.nonce) :: (Value.int IntKind.u32 o.nonce) :: (Value.slice An 12 cn) :: (vsA 10) :: (vsA 0) :: (vsA 1) :: (vsA 2) :: (vsA 3) :: (vsA 4) :: (vsA 5) :: (vsA 6) :: (vsA 7) :: (vsA 8) :: (sn (vsA 9)) :: (vsA 11) :: (vsA 12) :: (Value.int IntKind.i64 (k : Int)) :: (Value.slice (some ⟨mb, mo, none⟩) ms.length mc) :: (Value.int IntKind.i64 (ms.length : Int)) :: (Value.bool true) :: u49 :: u50 :: (vs 0) :: (vs 1) :: (vs 2) :: (vs 3) :: (vs 4) :: (vs 5) :: (vs 6) :: (vs 7) :: (vs 8) :: (vs 9) :: (vs 10) :: (vs 11) :: (vs 12) :: (vs 13) :: (vs 14) :: (vs 15) :: (vs 16) :: (vs 17) :: (vs 18) :: (vs 19) :: (vs 20) :: (vs 21) :: (vs 22) :: (vs 23) :: (sn (vs 24)) :: undef :: undef :: undef :: undef :: undef :: undef :: undef :: undef :: undef :: undef :: undef :: undef :: undef :: undef :: undef :: undef :: undef :: undef :: undef :: undef :: undef :: undef :: undef :: undef :: undef :: undef :: undef :: undef :: undef :: undef :: undef :: undef :: undef :: undef :: undef :: undef :: []).toArray)
              (F11b gs x mb mo mc ms k Sz L2) (fun vs wz => GQ (W.alloc (.cells #[.int .i64 o.kind, .int .u8 o.key, .int .u8 o.nonce, .slice o.bA o.bd.length o.bc, .slice o.tA o.td.length o.tc, .int .u16 o.turn, .bool o.short] 58)) gs Fz (Sz) (sealSr Sz (key4 x.key.toNat) (nonceL x.nonce.toNat 1) x.bd x.td) (fun w => By w (.slice An 12 cn) (nonceL 9 o.nonce.toNat) ∧ By w (.slice Aq L cq) SB) (vs 24) wz) rfl (by kernel_rfl) ?_ ?_ ?_
            · exact GQ.start HSZ.out ⟨HNR.out.ext_no ((Ext.refl No _).drew), HBR.out.ext_no ((Ext.refl No _).drew)⟩ _
            · refine ⟨⟨⟨⟨⟨⟨⟨⟨⟨⟨⟨⟨⟨⟨⟨⟨⟨⟨⟨⟨⟨⟨⟨⟨⟨trivial, ?_⟩, ?_⟩, ?_⟩, ?_⟩, ?_⟩, ?_⟩, ?_⟩, ?_⟩, ?_⟩, ?_⟩, ?_⟩, ?_⟩, ?_⟩, ?_⟩, ?_⟩, ?_⟩, ?_⟩, ?_⟩, ?_⟩, ?_⟩, ?_⟩, ?_⟩, ?_⟩, ?_⟩, ?_⟩
              · refine RF.Step.plain rfl rfl (fun vs wx hG hv hd K hK => ?_)
                have HG0 := Lib.hid hG
                clear hG
                go_simp
                have hfin := hK _ _ HG0.out rfl (fun _ _ h => h)
                first | exact hfin | (simpa only [RF.upd, sn_mk, Nat.reduceEqDiff, if_true, if_false, reduceIte] using hfin) | (simp only [RF.upd, sn_mk, Nat.reduceEqDiff, if_true, if_false, reduceIte] at hfin ⊢; exact hfin)
              · refine RF.Step.plain rfl rfl (fun vs wx hG hv hd K hK => ?_)
                have HG0 := Lib.hid hG
                clear hG
                go_simp
                have hfin := hK _ _ HG0.out rfl (fun _ _ h => h)
                first | exact hfin | (simpa only [RF.upd, sn_mk, Nat.reduceEqDiff, if_true, if_false, reduceIte] using hfin) | (simp only [RF.upd, sn_mk, Nat.reduceEqDiff, if_true, if_false, reduceIte] at hfin ⊢; exact hfin)
              · refine RF.Step.plain rfl rfl (fun vs wx hG hv hd K hK => ?_)
                have HG0 := Lib.hid hG
                clear hG
                go_simp
                have hfin := hK _ _ HG0.out rfl (fun _ _ h => h)
                first | exact hfin | (simpa only [RF.upd, sn_mk, Nat.reduceEqDiff, if_true, if_false, reduceIte] using hfin) | (simp only [RF.upd, sn_mk, Nat.reduceEqDiff, if_true, if_false, reduceIte] at hfin ⊢; exact hfin)
              · refine RF.Step.plain rfl rfl (fun vs wx hG hv hd K hK => ?_)
                have h0 : vs 1 = Value.slice (some ⟨mb, mo, none⟩) ms.length mc := by first | exact hd.1 | exact hd.2.1 | exact hd.2.2.1 | exact hd.2.2.2.1 | exact hd.2.2.2.2.1
                have h1 : vs 2 = Value.int .i64 (k : Int) := by first | exact hd.1 | exact hd.2.1 | exact hd.2.2.1 | exact hd.2.2.2.1 | exact hd.2.2.2.2.1
                have HG0 := Lib.hid hG
                clear hG
                go_simp
                have hfin := hK _ _ HG0.out rfl (fun _ _ h => h)
                first | exact hfin | (simpa only [RF.upd, sn_mk, h0, h1, Nat.reduceEqDiff, if_true, if_false, reduceIte] using hfin) | (simp only [RF.upd, sn_mk, h0, h1, Nat.reduceEqDiff, if_true, if_false, reduceIte] at hfin ⊢; exact hfin)
              · refine RF.Step.plain rfl rfl (fun vs wx hG hv hd K hK => ?_)
                have h0 : vs 3 = Value.pointer (some ⟨mb, mo + k * 7, none⟩) := by first | exact hd.1 | exact hd.2.1 | exact hd.2.2.1 | exact hd.2.2.2.1 | exact hd.2.2.2.2.1
                have HG0 := Lib.hid hG
                clear hG
                go_simp
                have hfin := hK _ _ HG0.out rfl (fun _ _ h => h)
                first | exact hfin | (simpa only [RF.upd, sn_mk, h0, Nat.reduceEqDiff, if_true, if_false, reduceIte] using hfin) | (simp only [RF.upd, sn_mk, h0, Nat.reduceEqDiff, if_true, if_false, reduceIte] at hfin ⊢; exact hfin)
              · refine RF.Step.plain rfl rfl (fun vs wx hG hv hd K hK => ?_)
                have h0 : vs 4 = Value.pointer (some ⟨mb, mo + k * 7 + 1, none⟩) := by first | exact hd.1 | exact hd.2.1 | exact hd.2.2.1 | exact hd.2.2.2.1 | exact hd.2.2.2.2.1
                obtain ⟨q1, q2, q3, q4⟩ := HRC.out wx hG.x
                have HG0 := Lib.hid hG
                clear hG
                go_simp
                have hfin := hK _ _ HG0.out rfl (fun _ _ h => h)
                first | exact hfin | (simpa only [RF.upd, sn_mk, h0, Nat.reduceEqDiff, if_true, if_false, reduceIte] using hfin) | (simp only [RF.upd, sn_mk, h0, Nat.reduceEqDiff, if_true, if_false, reduceIte] at hfin ⊢; exact hfin)
              · refine RF.Step.plain rfl rfl (fun vs wx hG hv hd K hK => ?_)
                have h0 : vs 5 = Value.int .u8 x.key := by first | exact hd.1 | exact hd.2.1 | exact hd.2.2.1 | exact hd.2.2.2.1 | exact hd.2.2.2.2.1
                go_simp
                refine (lKey4' x.key HXK.out.1 HXK.out.2 _).mono ?_
                rintro e_ w' ⟨r, rfl, hp, hx⟩
                have hfin := hK r _ (hG.no hx (fun T a b k h => ⟨By.kp h.1 k, By.kp h.2 k⟩)) hp (fun j_ _ h => F11b.kp gs x mb mo mc ms k Sz L2 (Kp.no hx) j_ _ h)
                first | exact hfin | (simpa only [RF.upd, sn_mk, h0, Nat.reduceEqDiff, if_true, if_false, reduceIte] using hfin) | (simp only [RF.upd, sn_mk, h0, Nat.reduceEqDiff, if_true, if_false, reduceIte] at hfin ⊢; exact hfin)
              · refine RF.Step.plain rfl rfl (fun vs wx hG hv hd K hK => ?_)
                have HG0 := Lib.hid hG
                clear hG
                go_simp
                have hfin := hK _ _ HG0.out rfl (fun _ _ h => h)
                first | exact hfin | (simpa only [RF.upd, sn_mk, Nat.reduceEqDiff, if_true, if_false, reduceIte] using hfin) | (simp only [RF.upd, sn_mk, Nat.reduceEqDiff, if_true, if_false, reduceIte] at hfin ⊢; exact hfin)
              · refine RF.Step.plain rfl rfl (fun vs wx hG hv hd K hK => ?_)
                have HG0 := Lib.hid hG
                clear hG
                go_simp
                have hfin := hK _ _ HG0.out rfl (fun _ _ h => h)
                first | exact hfin | (simpa only [RF.upd, sn_mk, Nat.reduceEqDiff, if_true, if_false, reduceIte] using hfin) | (simp only [RF.upd, sn_mk, Nat.reduceEqDiff, if_true, if_false, reduceIte] at hfin ⊢; exact hfin)
              · refine RF.Step.plain rfl rfl (fun vs wx hG hv hd K hK => ?_)
                have h0 : vs 7 = Value.slice (some ⟨mb, mo, none⟩) ms.length mc := by first | exact hd.1 | exact hd.2.1 | exact hd.2.2.1 | exact hd.2.2.2.1 | exact hd.2.2.2.2.1
                have h1 : vs 8 = Value.int .i64 (k : Int) := by first | exact hd.1 | exact hd.2.1 | exact hd.2.2.1 | exact hd.2.2.2.1 | exact hd.2.2.2.2.1
                have HG0 := Lib.hid hG
                clear hG
                go_simp
                have hfin := hK _ _ HG0.out rfl (fun _ _ h => h)
                first | exact hfin | (simpa only [RF.upd, sn_mk, h0, h1, Nat.reduceEqDiff, if_true, if_false, reduceIte] using hfin) | (simp only [RF.upd, sn_mk, h0, h1, Nat.reduceEqDiff, if_true, if_false, reduceIte] at hfin ⊢; exact hfin)
              · refine RF.Step.plain rfl rfl (fun vs wx hG hv hd K hK => ?_)
                have h0 : vs 9 = Value.pointer (some ⟨mb, mo + k * 7, none⟩) := by first | exact hd.1 | exact hd.2.1 | exact hd.2.2.1 | exact hd.2.2.2.1 | exact hd.2.2.2.2.1
                have HG0 := Lib.hid hG
                clear hG
                go_simp
                have hfin := hK _ _ HG0.out rfl (fun _ _ h => h)
                first | exact hfin | (simpa only [RF.upd, sn_mk, h0, Nat.reduceEqDiff, if_true, if_false, reduceIte] using hfin) | (simp only [RF.upd, sn_mk, h0, Nat.reduceEqDiff, if_true, if_false, reduceIte] at hfin ⊢; exact hfin)
              · refine RF.Step.plain rfl rfl (fun vs wx hG hv hd K hK => ?_)
                have h0 : vs 10 = Value.pointer (some ⟨mb, mo + k * 7 + 2, none⟩) := by first | exact hd.1 | exact hd.2.1 | exact hd.2.2.1 | exact hd.2.2.2.1 | exact hd.2.2.2.2.1
                obtain ⟨q1, q2, q3, q4⟩ := HRC.out wx hG.x
                have HG0 := Lib.hid hG
                clear hG
                go_simp
                have hfin := hK _ _ HG0.out rfl (fun _ _ h => h)
                first | exact hfin | (simpa only [RF.upd, sn_mk, h0, Nat.reduceEqDiff, if_true, if_false, reduceIte] using hfin) | (simp only [RF.upd, sn_mk, h0, Nat.reduceEqDiff, if_true, if_false, reduceIte] at hfin ⊢; exact hfin)
              · refine RF.Step.plain rfl rfl (fun vs wx hG hv hd K hK => ?_)
                have h0 : vs 11 = Value.int .u8 x.nonce := by first | exact hd.1 | exact hd.2.1 | exact hd.2.2.1 | exact hd.2.2.2.1 | exact hd.2.2.2.2.1
                have hm64 := HM64.out
                have HG0 := Lib.hid hG
                clear hG
                go_simp
                have hfin := hK _ _ HG0.out rfl (fun _ _ h => h)
                first | exact hfin | (simpa only [RF.upd, sn_mk, h0, Nat.reduceEqDiff, if_true, if_false, reduceIte] using hfin) | (simp only [RF.upd, sn_mk, h0, Nat.reduceEqDiff, if_true, if_false, reduceIte] at hfin ⊢; exact hfin)
              · refine RF.Step.plain rfl rfl (fun vs wx hG hv hd K hK => ?_)
                have h0 : vs 12 = Value.int .u64 x.nonce := by first | exact hd.1 | exact hd.2.1 | exact hd.2.2.1 | exact hd.2.2.2.1 | exact hd.2.2.2.2.1
                go_simp
                refine (lNonce1' x.nonce HXN.out.1 HXN.out.2 _).mono ?_
                rintro e_ w' ⟨r, rfl, hp, hx⟩
                have hfin := hK r _ (hG.no hx (fun T a b k h => ⟨By.kp h.1 k, By.kp h.2 k⟩)) hp (fun j_ _ h => F11b.kp gs x mb mo mc ms k Sz L2 (Kp.no hx) j_ _ h)
                first | exact hfin | (simpa only [RF.upd, sn_mk, h0, Nat.reduceEqDiff, if_true, if_false, reduceIte] using hfin) | (simp only [RF.upd, sn_mk, h0, Nat.reduceEqDiff, if_true, if_false, reduceIte] at hfin ⊢; exact hfin)
              · refine RF.Step.plain rfl rfl (fun vs wx hG hv hd K hK => ?_)
                have HG0 := Lib.hid hG
                clear hG
                go_simp
                have hfin := hK _ _ HG0.out rfl (fun _ _ h => h)
                first | exact hfin | (simpa only [RF.upd, sn_mk, Nat.reduceEqDiff, if_true, if_false, reduceIte] using hfin) | (simp only [RF.upd, sn_mk, Nat.reduceEqDiff, if_true, if_false, reduceIte] at hfin ⊢; exact hfin)
              · refine RF.Step.plain rfl rfl (fun vs wx hG hv hd K hK => ?_)
                have HG0 := Lib.hid hG
                clear hG
                go_simp
                have hfin := hK _ _ HG0.out rfl (fun _ _ h => h)
                first | exact hfin | (simpa only [RF.upd, sn_mk, Nat.reduceEqDiff, if_true, if_false, reduceIte] using hfin) | (simp only [RF.upd, sn_mk, Nat.reduceEqDiff, if_true, if_false, reduceIte] at hfin ⊢; exact hfin)
              · refine RF.Step.plain rfl rfl (fun vs wx hG hv hd K hK => ?_)
                have h0 : vs 14 = Value.slice (some ⟨mb, mo, none⟩) ms.length mc := by first | exact hd.1 | exact hd.2.1 | exact hd.2.2.1 | exact hd.2.2.2.1 | exact hd.2.2.2.2.1
                have h1 : vs 15 = Value.int .i64 (k : Int) := by first | exact hd.1 | exact hd.2.1 | exact hd.2.2.1 | exact hd.2.2.2.1 | exact hd.2.2.2.2.1
                have HG0 := Lib.hid hG
                clear hG
                go_simp
                have hfin := hK _ _ HG0.out rfl (fun _ _ h => h)
                first | exact hfin | (simpa only [RF.upd, sn_mk, h0, h1, Nat.reduceEqDiff, if_true, if_false, reduceIte] using hfin) | (simp only [RF.upd, sn_mk, h0, h1, Nat.reduceEqDiff, if_true, if_false, reduceIte] at hfin ⊢; exact hfin)
              · refine RF.Step.plain rfl rfl (fun vs wx hG hv hd K hK => ?_)
                have h0 : vs 16 = Value.pointer (some ⟨mb, mo + k * 7, none⟩) := by first | exact hd.1 | exact hd.2.1 | exact hd.2.2.1 | exact hd.2.2.2.1 | exact hd.2.2.2.2.1
                have HG0 := Lib.hid hG
                clear hG
                go_simp
                have hfin := hK _ _ HG0.out rfl (fun _ _ h => h)
                first | exact hfin | (simpa only [RF.upd, sn_mk, h0, Nat.reduceEqDiff, if_true, if_false, reduceIte] using hfin) | (simp only [RF.upd, sn_mk, h0, Nat.reduceEqDiff, if_true, if_false, reduceIte] at hfin ⊢; exact hfin)
              · refine RF.Step.plain rfl rfl (fun vs wx hG hv hd K hK => ?_)
                have h0 : vs 17 = Value.pointer (some ⟨mb, mo + k * 7 + 3, none⟩) := by first | exact hd.1 | exact hd.2.1 | exact hd.2.2.1 | exact hd.2.2.2.1 | exact hd.2.2.2.2.1
                obtain ⟨q1, q2, q3, q4⟩ := HRC.out wx hG.x
                have HG0 := Lib.hid hG
                clear hG
                go_simp
                have hfin := hK _ _ HG0.out rfl (fun _ _ h => h)
                first | exact hfin | (simpa only [RF.upd, sn_mk, h0, Nat.reduceEqDiff, if_true, if_false, reduceIte] using hfin) | (simp only [RF.upd, sn_mk, h0, Nat.reduceEqDiff, if_true, if_false, reduceIte] at hfin ⊢; exact hfin)
              · refine RF.Step.plain rfl rfl (fun vs wx hG hv hd K hK => ?_)
                have HG0 := Lib.hid hG
                clear hG
                go_simp
                have hfin := hK _ _ HG0.out rfl (fun _ _ h => h)
                first | exact hfin | (simpa only [RF.upd, sn_mk, Nat.reduceEqDiff, if_true, if_false, reduceIte] using hfin) | (simp only [RF.upd, sn_mk, Nat.reduceEqDiff, if_true, if_false, reduceIte] at hfin ⊢; exact hfin)
              · refine RF.Step.plain rfl rfl (fun vs wx hG hv hd K hK => ?_)
                have HG0 := Lib.hid hG
                clear hG
                go_simp
                have hfin := hK _ _ HG0.out rfl (fun _ _ h => h)
                first | exact hfin | (simpa only [RF.upd, sn_mk, Nat.reduceEqDiff, if_true, if_false, reduceIte] using hfin) | (simp only [RF.upd, sn_mk, Nat.reduceEqDiff, if_true, if_false, reduceIte] at hfin ⊢; exact hfin)
              · refine RF.Step.plain rfl rfl (fun vs wx hG hv hd K hK => ?_)
                have h0 : vs 19 = Value.slice (some ⟨mb, mo, none⟩) ms.length mc := by first | exact hd.1 | exact hd.2.1 | exact hd.2.2.1 | exact hd.2.2.2.1 | exact hd.2.2.2.2.1
                have h1 : vs 20 = Value.int .i64 (k : Int) := by first | exact hd.1 | exact hd.2.1 | exact hd.2.2.1 | exact hd.2.2.2.1 | exact hd.2.2.2.2.1
                have HG0 := Lib.hid hG
                clear hG
                go_simp
                have hfin := hK _ _ HG0.out rfl (fun _ _ h => h)
                first | exact hfin | (simpa only [RF.upd, sn_mk, h0, h1, Nat.reduceEqDiff, if_true, if_false, reduceIte] using hfin) | (simp only [RF.upd, sn_mk, h0, h1, Nat.reduceEqDiff, if_true, if_false, reduceIte] at hfin ⊢; exact hfin)
              · refine RF.Step.plain rfl rfl (fun vs wx hG hv hd K hK => ?_)
                have h0 : vs 21 = Value.pointer (some ⟨mb, mo + k * 7, none⟩) := by first | exact hd.1 | exact hd.2.1 | exact hd.2.2.1 | exact hd.2.2.2.1 | exact hd.2.2.2.2.1
                have HG0 := Lib.hid hG
                clear hG
                go_simp
                have hfin := hK _ _ HG0.out rfl (fun _ _ h => h)
                first | exact hfin | (simpa only [RF.upd, sn_mk, h0, Nat.reduceEqDiff, if_true, if_false, reduceIte] using hfin) | (simp only [RF.upd, sn_mk, h0, Nat.reduceEqDiff, if_true, if_false, reduceIte] at hfin ⊢; exact hfin)
              · refine RF.Step.plain rfl rfl (fun vs wx hG hv hd K hK => ?_)
                have h0 : vs 22 = Value.pointer (some ⟨mb, mo + k * 7 + 4, none⟩) := by first | exact hd.1 | exact hd.2.1 | exact hd.2.2.1 | exact hd.2.2.2.1 | exact hd.2.2.2.2.1
                obtain ⟨q1, q2, q3, q4⟩ := HRC.out wx hG.x
                have HG0 := Lib.hid hG
                clear hG
                go_simp
                have hfin := hK _ _ HG0.out rfl (fun _ _ h => h)
                first | exact hfin | (simpa only [RF.upd, sn_mk, h0, Nat.reduceEqDiff, if_true, if_false, reduceIte] using hfin) | (simp only [RF.upd, sn_mk, h0, Nat.reduceEqDiff, if_true, if_false, reduceIte] at hfin ⊢; exact hfin)
              · refine RF.Step.plain rfl rfl (fun vs wx hG hv hd K hK => ?_)
                have h0 : vs 0 = Value.pointer (some ⟨gs, 0, none⟩) := by first | exact hd.1 | exact hd.2.1 | exact hd.2.2.1 | exact hd.2.2.2.1 | exact hd.2.2.2.2.1
                obtain ⟨A1_, c1_, h1, hb1⟩ : PB (32) ((key4 x.key.toNat)) (vs 6) wx := by first | exact hd.1 | exact hd.2.1 | exact hd.2.2.1 | exact hd.2.2.2.1 | exact hd.2.2.2.2.1
                obtain ⟨A2_, c2_, h2, hb2⟩ : PB (12) ((nonceL x.nonce.toNat 1)) (vs 13) wx := by first | exact hd.1 | exact hd.2.1 | exact hd.2.2.1 | exact hd.2.2.2.1 | exact hd.2.2.2.2.1
                have h3 : vs 18 = Value.slice x.bA x.bd.length x.bc := by first | exact hd.1 | exact hd.2.1 | exact hd.2.2.1 | exact hd.2.2.2.1 | exact hd.2.2.2.2.1
                have h4 : vs 23 = Value.slice x.tA x.td.length x.tc := by first | exact hd.1 | exact hd.2.1 | exact hd.2.2.1 | exact hd.2.2.2.1 | exact hd.2.2.2.2.1
                go_simp
                refine (aSealL HL2.out (hG.old (by rw [hv]; rfl)) hb1.any hb2.any (HXB.out.1.ext_no hG.x) (HXB.out.2.ext_no hG.x) (key4_length _) (nonceL_length _ _) HXD.out.1 HXD.out.2 HXS.out.1 HXS.out.2).mono ?_
                rintro e_ w' ⟨A_, c_, F', rfl, hb, hs, hx, hF⟩
                obtain ⟨k1, k2⟩ := hG.done (by rw [hv]; rfl) hs hx hF (fun T a b k h => ⟨By.kp h.1 k, By.kp h.2 k⟩) (.tuple #[.slice A_ (L2) c_, .int .i64 (0)])
                have hfin := hK (.tuple #[.bool true, .tuple #[.slice A_ (L2) c_, .int .i64 (0)]]) w' k1 ⟨⟨A_, c_, rfl, hb⟩, rfl⟩ (fun j_ _ h => F11b.kp gs x mb mo mc ms k Sz L2 k2 j_ _ h)
                first | exact hfin | (simpa only [RF.upd, sn_mk, h0, h1, h2, h3, h4, Nat.reduceEqDiff, if_true, if_false, reduceIte] using hfin) | (simp only [RF.upd, sn_mk, h0, h1, h2, h3, h4, Nat.reduceEqDiff, if_true, if_false, reduceIte] at hfin ⊢; exact hfin)
            · intro vsB wB hG hF
              obtain ⟨F6, hs6⟩ := hG.new_ (hF 24 (by decide)).2
              have HS6 : Hid (∃ F S, Sl1 (W.alloc (.cells #[.int .i64 o.kind, .int .u8 o.key, .int .u8 o.nonce, .slice o.bA o.bd.length o.bc, .slice o.tA o.td.length o.tc, .int .u16 o.turn, .bool o.short] 58)) wB gs F S ∧ BkI i ⟨key4 o.key.toNat, nonceL 9 o.nonce.toNat, o.bd, o.td, SB⟩ (k + 1) S) := Lib.hid ⟨_, _, hs6, HBZ.out.step _ _ _ _ HXT.out⟩
              have HE6 : Hid (By wB (.slice An 12 cn) (nonceL 9 o.nonce.toNat) ∧ By wB (.slice Aq L cq) SB) := Lib.hid hG.ex
              clear hF hG hs6
              go_wp2
              go_roundw
              case rel => exact ⟨k + 1, by omega, by go_num, HS6, Lib.hid HE6.out.1, Lib.hid HE6.out.2⟩
              case measure => simp [intOf]; omega
          · obtain rfl : k = ms.length := by omega
            have HBN : Hid (Sz.book.length ≤ 100000) := Lib.hid (by have h1 := HBZ.out.len; omega)
            have HBTX : Hid (∀ e ∈ Sz.book, e.text.length ≤ 100000) := Lib.hid (HBZ.out.texts (by have := HBD.out.2; show o.td.length ≤ 100000; omega))
            have HKN : Hid (knownE Sz.book (key4 o.key.toNat) (nonceL 9 o.nonce.toNat) o.bd SB = some o.td) := Lib.hid HBZ.out.known
            have HSE : Hid (Sz.ideal = false → SB = sealL (kys (key4 o.key.toNat)) (nonceL 9 o.nonce.toNat) (hOf16 (kys (key4 o.key.toNat))) o.bd o.td) := Lib.hid (fun h => by
              have hi : i = false := by rw [← HBZ.out.i]; exact h
              rw [← HSB.out, hi]; unfold sealB Sr.new; rw [if_neg (by decide)])
            have HSL : Hid (SB.length = o.td.length + 16) := Lib.hid (by rw [← HSB.out]; exact sealB_length _ _ _ _ _ (key4_length _))
            go_wp2_with fail
            refine RF.region (vs := fun | 8 => .tuple #[.bool false, undef] | _ => undef) rfl (fun vs => ((Value.bool i) :: (Value.agg #[Value.int IntKind.i64 o.kind, Value.int IntKind.u8 o.key, Value.int IntKind.u8 o.nonce, Value.slice o.bA o.bd.length o.bc, Value.slice o.tA o.td.length o.tc, Value.int IntKind.u16 o.turn, Value.bool o.short]) :: (Value.slice mA ms.length mc) :: undef :: (Value.pointer (some ⟨W.heap.size, 0, none⟩)) :: undef :: (Value.bool false) :: (sp gs) :: (Value.slice An 12 cn) :: (Value.slice Aq L cq) :: (Value.int IntKind.i64 0) :: (Value.int IntKind.i64 (ms.length : Int)) :: (vs 12) :: (vs 13) :: (Value.agg #[Value.int IntKind.i64 o.kind, Value.int IntKind.u8 o.key, Value.int IntKind.u8 o.nonce, Value.slice o.bA o.bd.length o.bc, Value.slice o.tA o.td.length o.tc, Value.int IntKind.u16 o.turn, Value.bool o.short]) :: (Value.slice (some ⟨W.heap.size + 1, 0, none⟩) 1 1) :: (Value.bool true) :: (Value.bool false) :: (Value.bool false) :: (Value.slice mA ms.length mc) :: (Value.bool true) :: (Value.bool false) :: (Value.bool false) :: undef :: (Value.bool i) :: (sp gs) :: (sp gs) :: (Value.bool false) :: (Value.pointer (some ⟨W.heap.size, 2, none⟩)) :: (Value.int IntKind.u8 o.nonce) :: (Value.int IntKind.u32 o.nonce) :: (Value.slice An 12 cn) :: (vsA 10) :: (vsA 0) :: (vsA 1) :: (vsA 2) :: (vsA 3) :: (vsA 4) :: (vsA 5) :: (vsA 6) :: (vsA 7) :: (vsA 8) :: (sn (vsA 9)) :: (vsA 11) :: (vsA 12) :: (Value.int IntKind.i64 (ms.length : Int)) :: (Value.slice mA ms.length mc) :: (Value.int IntKind.i64 (ms.length : Int)) :: (Value.bool false) :: u49 :: u50 :: u51 :: u52 :: u53 :: u54 :: u55 :: u56 :: u57 :: u58 :: u59 :: u60 :: u61 :: u62 :: u63 :: u64 :: u65 :: u66 :: u67 :: u68 :: u69 :: u70 :: u71 :: u72 :: u73 :: u74 :: u75 :: (vs 9) :: (vs 0) :: (vs 1) :: (vs 2) :: (vs 3) :: (vs 4) :: (vs 5) :: (vs 6) :: (vs 7) :: (sn (vs 8)) :: (vs 10) :: (vs 11) :: undef :: undef :: undef :: undef :: undef :: undef :: undef :: undef :: undef :: undef :: undef :: undef :: undef :: undef :: undef :: undef :: undef :: undef :: undef :: undef :: undef :: undef :: undef :: undef :: []).toArray)
              (F12b W gs o An Aq cn cq L) (fun vs wz => GQ (W.alloc (.cells #[.int .i64 o.kind, .int .u8 o.key, .int .u8 o.nonce, .slice o.bA o.bd.length o.bc, .slice o.tA o.td.length o.tc, .int .u16 o.turn, .bool o.short] 58)) gs Fz (Sz) (Sz) (fun w => By w (.slice An 12 cn) (nonceL 9 o.nonce.toNat) ∧ By w (.slice Aq L cq) SB) (vs 8) wz) rfl (by kernel_rfl) ?_ ?_ ?_
            · exact GQ.start HSZ.out ⟨HNR.out.ext_no ((Ext.refl No _).drew), HBR.out.ext_no ((Ext.refl No _).drew)⟩ _
            · refine ⟨⟨⟨⟨⟨⟨⟨⟨⟨⟨⟨⟨⟨⟨trivial, ?_⟩, ?_⟩, ?_⟩, ?_⟩, ?_⟩, ?_⟩, ?_⟩, ?_⟩, ?_⟩, ?_⟩, ?_⟩, ?_⟩, ?_⟩, ?_⟩
              · refine RF.Step.plain rfl rfl (fun vs wx hG hv hd K hK => ?_)
                have HG0 := Lib.hid hG
                clear hG
                go_simp
                have hfin := hK _ _ HG0.out rfl (fun _ _ h => h)
                first | exact hfin | (simpa only [RF.upd, sn_mk, Nat.reduceEqDiff, if_true, if_false, reduceIte] using hfin) | (simp only [RF.upd, sn_mk, Nat.reduceEqDiff, if_true, if_false, reduceIte] at hfin ⊢; exact hfin)
              · refine RF.Step.plain rfl rfl (fun vs wx hG hv hd K hK => ?_)
                obtain ⟨q1, q2, q3, q4, qg⟩ := HBX.out wx hG.x
                have HG0 := Lib.hid hG
                clear hG
                go_simp
                have hfin := hK _ _ HG0.out rfl (fun _ _ h => h)
                first | exact hfin | (simpa only [RF.upd, sn_mk, Nat.reduceEqDiff, if_true, if_false, reduceIte] using hfin) | (simp only [RF.upd, sn_mk, Nat.reduceEqDiff, if_true, if_false, reduceIte] at hfin ⊢; exact hfin)
              · refine RF.Step.plain rfl rfl (fun vs wx hG hv hd K hK => ?_)
                have h0 : vs 1 = Value.pointer (some ⟨W.heap.size, 1, none⟩) := by first | exact hd.1 | exact hd.2.1 | exact hd.2.2.1 | exact hd.2.2.2.1 | exact hd.2.2.2.2.1
                obtain ⟨q1, q2, q3, q4, qg⟩ := HBX.out wx hG.x
                have HG0 := Lib.hid hG
                clear hG
                go_simp
                have hfin := hK _ _ HG0.out rfl (fun _ _ h => h)
                first | exact hfin | (simpa only [RF.upd, sn_mk, h0, Nat.reduceEqDiff, if_true, if_false, reduceIte] using hfin) | (simp only [RF.upd, sn_mk, h0, Nat.reduceEqDiff, if_true, if_false, reduceIte] at hfin ⊢; exact hfin)
              · refine RF.Step.plain rfl rfl (fun vs wx hG hv hd K hK => ?_)
                have h0 : vs 2 = Value.int .u8 o.key := by first | exact hd.1 | exact hd.2.1 | exact hd.2.2.1 | exact hd.2.2.2.1 | exact hd.2.2.2.2.1
                go_simp
                refine (lKey4' o.key HKEY.out.1 HKEY.out.2 _).mono ?_
                rintro e_ w' ⟨r, rfl, hp, hx⟩
                have hfin := hK r _ (hG.no hx (fun T a b k h => ⟨By.kp h.1 k, By.kp h.2 k⟩)) hp (fun j_ _ h => F12b.kp W gs o An Aq cn cq L (Kp.no hx) j_ _ h)
                first | exact hfin | (simpa only [RF.upd, sn_mk, h0, Nat.reduceEqDiff, if_true, if_false, reduceIte] using hfin) | (simp only [RF.upd, sn_mk, h0, Nat.reduceEqDiff, if_true, if_false, reduceIte] at hfin ⊢; exact hfin)
              · refine RF.Step.plain rfl rfl (fun vs wx hG hv hd K hK => ?_)
                have HG0 := Lib.hid hG
                clear hG
                go_simp
                have hfin := hK _ _ HG0.out rfl (fun _ _ h => h)
                first | exact hfin | (simpa only [RF.upd, sn_mk, Nat.reduceEqDiff, if_true, if_false, reduceIte] using hfin) | (simp only [RF.upd, sn_mk, Nat.reduceEqDiff, if_true, if_false, reduceIte] at hfin ⊢; exact hfin)
              · refine RF.Step.plain rfl rfl (fun vs wx hG hv hd K hK => ?_)
                obtain ⟨q1, q2, q3, q4, qg⟩ := HBX.out wx hG.x
                have HG0 := Lib.hid hG
                clear hG
                go_simp
                have hfin := hK _ _ HG0.out rfl (fun _ _ h => h)
                first | exact hfin | (simpa only [RF.upd, sn_mk, Nat.reduceEqDiff, if_true, if_false, reduceIte] using hfin) | (simp only [RF.upd, sn_mk, Nat.reduceEqDiff, if_true, if_false, reduceIte] at hfin ⊢; exact hfin)
              · refine RF.Step.plain rfl rfl (fun vs wx hG hv hd K hK => ?_)
                have h0 : vs 5 = Value.pointer (some ⟨W.heap.size, 3, none⟩) := by first | exact hd.1 | exact hd.2.1 | exact hd.2.2.1 | exact hd.2.2.2.1 | exact hd.2.2.2.2.1
                obtain ⟨q1, q2, q3, q4, qg⟩ := HBX.out wx hG.x
                have HG0 := Lib.hid hG
                clear hG
                go_simp
                have hfin := hK _ _ HG0.out rfl (fun _ _ h => h)
                first | exact hfin | (simpa only [RF.upd, sn_mk, h0, Nat.reduceEqDiff, if_true, if_false, reduceIte] using hfin) | (simp only [RF.upd, sn_mk, h0, Nat.reduceEqDiff, if_true, if_false, reduceIte] at hfin ⊢; exact hfin)
              · refine RF.Step.plain rfl rfl (fun vs wx hG hv hd K hK => ?_)
                have HG0 := Lib.hid hG
                clear hG
                go_simp
                have hfin := hK _ _ HG0.out rfl (fun _ _ h => h)
                first | exact hfin | (simpa only [RF.upd, sn_mk, Nat.reduceEqDiff, if_true, if_false, reduceIte] using hfin) | (simp only [RF.upd, sn_mk, Nat.reduceEqDiff, if_true, if_false, reduceIte] at hfin ⊢; exact hfin)
              · refine RF.Step.plain rfl rfl (fun vs wx hG hv hd K hK => ?_)
                have h0 : vs 0 = Value.pointer (some ⟨gs, 0, none⟩) := by first | exact hd.1 | exact hd.2.1 | exact hd.2.2.1 | exact hd.2.2.2.1 | exact hd.2.2.2.2.1
                obtain ⟨A1_, c1_, h1, hb1⟩ : PB (32) ((key4 o.key.toNat)) (vs 3) wx := by first | exact hd.1 | exact hd.2.1 | exact hd.2.2.1 | exact hd.2.2.2.1 | exact hd.2.2.2.2.1
                have h2 : vs 4 = Value.slice An 12 cn := by first | exact hd.1 | exact hd.2.1 | exact hd.2.2.1 | exact hd.2.2.2.1 | exact hd.2.2.2.2.1
                have h3 : vs 6 = Value.slice o.bA o.bd.length o.bc := by first | exact hd.1 | exact hd.2.1 | exact hd.2.2.1 | exact hd.2.2.2.1 | exact hd.2.2.2.2.1
                have h4 : vs 7 = Value.slice Aq L cq := by first | exact hd.1 | exact hd.2.1 | exact hd.2.2.1 | exact hd.2.2.2.1 | exact hd.2.2.2.2.1
                go_simp
                refine (aOpen_back (hG.old (by rw [hv]; rfl)) hb1.any hG.ex.1.any (HBT.out.1.ext_no hG.x) hG.ex.2.any (key4_length _) (nonceL_length _ _) HBD.out.1 HBD.out.2 HBN.out HBTX.out HKN.out HSE.out HSL.out).mono ?_
                rintro e_ w' ⟨A_, c_, rfl, hb, hs0, hx⟩
                have hs := hs0.s
                have hF : ∀ b, Fz b → Fz b ∨ wx.heap.size ≤ b := fun _ h => .inl h
                obtain ⟨k1, k2⟩ := hG.done (by rw [hv]; rfl) hs hx hF (fun T a b k h => ⟨By.kp h.1 k, By.kp h.2 k⟩) (.tuple #[.slice A_ (o.td.length) c_, .int .i64 (0)])
                have hfin := hK (.tuple #[.bool true, .tuple #[.slice A_ (o.td.length) c_, .int .i64 (0)]]) w' k1 ⟨⟨A_, c_, rfl, hb⟩, rfl⟩ (fun j_ _ h => F12b.kp W gs o An Aq cn cq L k2 j_ _ h)
                first | exact hfin | (simpa only [RF.upd, sn_mk, h0, h1, h2, h3, h4, Nat.reduceEqDiff, if_true, if_false, reduceIte] using hfin) | (simp only [RF.upd, sn_mk, h0, h1, h2, h3, h4, Nat.reduceEqDiff, if_true, if_false, reduceIte] at hfin ⊢; exact hfin)
              · refine RF.Step.plain rfl rfl (fun vs wx hG hv hd K hK => ?_)
                obtain ⟨⟨A0_, c0_, h0, hb0⟩, -⟩ : PT (o.td.length) (o.td) (0) (sn (vs 8)) wx ∧ fs (vs 8) = .bool true := by first | exact hd.1 | exact hd.2.1 | exact hd.2.2.1 | exact hd.2.2.2.1 | exact hd.2.2.2.2.1
                have HB0 := Lib.hid hb0
                clear hb0
                have HG0 := Lib.hid hG
                clear hG
                go_simp
                have hfin := hK (.tuple #[.slice A0_ (o.td.length) c0_, .int .i64 (0)]) _ HG0.out ⟨_, _, rfl, HB0.out⟩ (fun _ _ h => h)
                first | exact hfin | (simpa only [RF.upd, sn_mk, h0, Nat.reduceEqDiff, if_true, if_false, reduceIte] using hfin) | (simp only [RF.upd, sn_mk, h0, Nat.reduceEqDiff, if_true, if_false, reduceIte] at hfin ⊢; exact hfin)
              · refine RF.Step.plain rfl rfl (fun vs wx hG hv hd K hK => ?_)
                obtain ⟨A0_, c0_, h0, hb0⟩ : PT (o.td.length) (o.td) (0) (vs 9) wx := by first | exact hd.1 | exact hd.2.1 | exact hd.2.2.1 | exact hd.2.2.2.1 | exact hd.2.2.2.2.1
                have HB0 := Lib.hid hb0
                clear hb0
                have HG0 := Lib.hid hG
                clear hG
                go_simp
                have hfin := hK (.slice A0_ (o.td.length) c0_) _ HG0.out ⟨_, _, rfl, HB0.out⟩ (fun _ _ h => h)
                first | exact hfin | (simpa only [RF.upd, sn_mk, h0, Nat.reduceEqDiff, if_true, if_false, reduceIte] using hfin) | (simp only [RF.upd, sn_mk, h0, Nat.reduceEqDiff, if_true, if_false, reduceIte] at hfin ⊢; exact hfin)
              · refine RF.Step.plain rfl rfl (fun vs wx hG hv hd K hK => ?_)
                obtain ⟨A0_, c0_, h0, hb0⟩ : PT (o.td.length) (o.td) (0) (vs 9) wx := by first | exact hd.1 | exact hd.2.1 | exact hd.2.2.1 | exact hd.2.2.2.1 | exact hd.2.2.2.2.1
                clear hb0
                have HG0 := Lib.hid hG
                clear hG
                go_simp
                have hfin := hK _ _ HG0.out rfl (fun _ _ h => h)
                first | exact hfin | (simpa only [RF.upd, sn_mk, h0, Nat.reduceEqDiff, if_true, if_false, reduceIte] using hfin) | (simp only [RF.upd, sn_mk, h0, Nat.reduceEqDiff, if_true, if_false, reduceIte] at hfin ⊢; exact hfin)
              · refine RF.Step.plain rfl rfl (fun vs wx hG hv hd K hK => ?_)
                obtain ⟨A0_, c0_, h0, hb0⟩ : PB (o.td.length) (o.td) (vs 10) wx := by first | exact hd.1 | exact hd.2.1 | exact hd.2.2.1 | exact hd.2.2.2.1 | exact hd.2.2.2.2.1
                have HB0 := Lib.hid hb0
                clear hb0
                have HG0 := Lib.hid hG
                clear hG
                go_simp
                have hfin := hK (.slice A0_ (o.td.length) c0_) _ HG0.out ⟨_, _, rfl, HB0.out⟩ (fun _ _ h => h)
                first | exact hfin | (simpa only [RF.upd, sn_mk, h0, Nat.reduceEqDiff, if_true, if_false, reduceIte] using hfin) | (simp only [RF.upd, sn_mk, h0, Nat.reduceEqDiff, if_true, if_false, reduceIte] at hfin ⊢; exact hfin)
              · refine RF.Step.plain rfl rfl (fun vs wx hG hv hd K hK => ?_)
                have h0 : vs 11 = Value.int .i64 0 := by first | exact hd.1 | exact hd.2.1 | exact hd.2.2.1 | exact hd.2.2.2.1 | exact hd.2.2.2.2.1
                have HG0 := Lib.hid hG
                clear hG
                go_simp
                have hfin := hK _ _ HG0.out rfl (fun _ _ h => h)
                first | exact hfin | (simpa only [RF.upd, sn_mk, h0, Nat.reduceEqDiff, if_true, if_false, reduceIte] using hfin) | (simp only [RF.upd, sn_mk, h0, Nat.reduceEqDiff, if_true, if_false, reduceIte] at hfin ⊢; exact hfin)
            · intro vsB wB hG hF
              obtain ⟨Ay, cy, e12, hb12⟩ : PB o.td.length o.td (vsB 12) wB := hF 12 (by decide)
              have e13 : vsB 13 = Value.int .i64 0 := hF 13 (by decide)
              obtain ⟨q1, q2, q3, q4, qg⟩ := HBX.out wB hG.x
              have HXB2 : Hid (Ext No (W.alloc (.cells #[.int .i64 o.kind, .int .u8 o.key, .int .u8 o.nonce, .slice o.bA o.bd.length o.bc, .slice o.tA o.td.length o.tc, .int .u16 o.turn, .bool o.short] 58)) wB) := Lib.hid hG.x
              have HB12 := Lib.hid hb12
              have hLi : IntKind.i64.wrap ((o.td.length : Int) + 16) = (L : Int) := by have := HLL.out; have := HBD.out.2; rw [IntKind.wrap_i64]; omega
              rw [e12, e13]
              clear hF hG hb12 e12 e13
              go_wp2_with (first
                | (go_at_call 25; (with_reducible refine (rSame_q _ _ o.td o.td true (decide_eq_true rfl) _ HB12.out.any (HBT.out.2.ext_no HXB2.out)).mono ?_); rintro e7 w7 ⟨rfl, hx⟩; have HX7 := Lib.hid (HXB2.out.trans hx); clear hx)
                | (go_at_call 33; (with_reducible refine (lWorks12 _).mono ?_); rintro e8 w8 ⟨rfl, hx⟩; have HX8 := Lib.hid (HX7.out.trans hx); clear hx))
              go_ret
              exact ⟨rfl, HX0.out.trans HX8.out⟩
set_option maxRecDepth 100000 in
theorem walk_SealBack (W : World) (v0 v1 v2 : Value) (u0 : Rd Try.prog W 4 v0.cells.toList) (u1 : Rd Try.prog W 58 v1.cells.toList) (u2 : Rd Try.prog W 59 v2.cells.toList)
    {r : Reach} {base : Nat} (ok0 : Value.okWide Try.prog W r base 4 v0) (ok1 : Value.okWide Try.prog W r base 58 v1) (ok2 : Value.okWide Try.prog W r base 59 v2) :
    Calls Try.prog 8 #[v0, v1, v2] W fun e W' => e = .returned (.bool true) ∧ Ext No W W' := by
  obtain ⟨b0, rfl⟩ := Rd.bool_val Try.underlying4 ok0 u0
  obtain ⟨o, rfl, ho⟩ := op12_val u1 ok1
  obtain ⟨ms, hm⟩ := op12s_val u2 ok2
  exact back12_any b0 o v2 ms W ho hm
end Go.Proofs.Ytmbbkkonmkbnoaa
