/- The cell: what its methods answer, and do to its block and to the power's. -/
import Derived.Test.YtbemmjejgklieaaOctet
import Derived.Test.YtbemmjejgklieaaPower
import Derived.Deep.OwnRows
set_option linter.unusedVariables false
set_option linter.unusedSimpArgs false
namespace Go.Proofs.Ytbemmjejgklieaa
open Go.RowKit Go.Deep

/-- Blocks other than these two. -/
abbrev Off2 (g h : Nat) : Nat → Prop := fun b => b ≠ g ∧ b ≠ h
theorem off2_not {g h b : Nat} (hb : Off2 g h b) : ¬ Two g h b := fun h => h.elim hb.1 hb.2
theorem off2_one {g h b : Nat} (hb : Off2 g h b) : ¬ One g b := hb.1
theorem off2_one' {g h b : Nat} (hb : Off2 g h b) : ¬ One h b := hb.2
/-- A cell over the power at gp: its four sectors' bytes, how many were written. -/
def IsCell (w : World) (gp gc : Nat) (L : Nat → List UInt8) (n : Int) : Prop :=
  ∃ s0 s1 s2 s3 : Value, Blk w gc 132 #[ptr gp, s0, s1, s2, s3, .int .i64 n] ∧ Bs w (Off2 gp gc) s0 (L 0) ∧ Bs w (Off2 gp gc) s1 (L 1) ∧ Bs w (Off2 gp gc) s2 (L 2) ∧ Bs w (Off2 gp gc) s3 (L 3)
theorem IsCell.ext {S : Nat → Prop} {w w' : World} {gp gc : Nat} {L : Nat → List UInt8} {n : Int} (h : IsCell w gp gc L n) (he : Ext S w w') (hg : ¬ S gc) (hs : ∀ b, Off2 gp gc b → b < w.heap.size → ¬ S b) : IsCell w' gp gc L n := by
  obtain ⟨s0, s1, s2, s3, hb, h0, h1, h2, h3⟩ := h
  exact ⟨s0, s1, s2, s3, hb.ext he hg, h0.ext he hs, h1.ext he hs, h2.ext he hs, h3.ext he hs⟩
theorem IsCell.ext_no {w w' : World} {gp gc : Nat} {L : Nat → List UInt8} {n : Int} (h : IsCell w gp gc L n) (he : Ext No w w') : IsCell w' gp gc L n := h.ext he (fun h => h) (fun _ _ _ h => h)
theorem IsCell.ext_pw {w w' : World} {gp gc : Nat} {L : Nat → List UInt8} {n : Int} (h : IsCell w gp gc L n) (hne : gc ≠ gp) (he : Ext (One gp) w w') : IsCell w' gp gc L n := h.ext he hne (fun _ h _ => off2_one h)
theorem IsCell.lt {w : World} {gp gc : Nat} {L : Nat → List UInt8} {n : Int} (h : IsCell w gp gc L n) : gc < w.heap.size := by obtain ⟨s0, s1, s2, s3, hb, _⟩ := h; exact hb.lt

set_option maxHeartbeats 400000 in
theorem cNew_any (gp : Nat) (w : World) : Calls Try.prog 29 #[ptr gp] w fun e w' => e = .returned (.tuple #[ptr w.heap.size, .int .i64 0]) ∧
    w.alloc (.cells #[ptr gp, .slice none 0 0, .slice none 0 0, .slice none 0 0, .slice none 0 0, .int .i64 0] 132) = w' := by
  go_enter Try.func29, Try.ntmps29
  go_wp2
  go_ret2
  exact ⟨rfl, rfl⟩
set_option maxHeartbeats 400000 in
theorem cNew_nil (w : World) : Calls Try.prog 29 #[.pointer none] w fun e w' => e = .returned (.tuple #[.pointer none, .int .i64 1]) ∧ w = w' := by
  go_enter Try.func29, Try.ntmps29
  go_wp2
  go_ret2
  exact ⟨rfl, rfl⟩
theorem IsCell.new (w : World) (gp : Nat) : IsCell (w.alloc (.cells #[ptr gp, .slice none 0 0, .slice none 0 0, .slice none 0 0, .slice none 0 0, .int .i64 0] 132)) gp w.heap.size (fun _ => []) 0 :=
  ⟨_, _, _, _, Blk.new _ _ _, Bs.nil _ _, Bs.nil _ _, Bs.nil _ _, Bs.nil _ _⟩

set_option maxHeartbeats 400000 in
theorem cWrites_any (gp gc : Nat) (L : Nat → List UInt8) (n : Int) (w : World) (h : IsCell w gp gc L n) :
    Calls Try.prog 36 #[ptr gc] w fun e w' => e = .returned (.int .i64 n) ∧ w = w' := by
  obtain ⟨s0, s1, s2, s3, hb, _⟩ := h
  have c5 : w.cell? ⟨gc, 5, none⟩ = some (.int .i64 n) := Blk.cell hb 5
  clear hb
  go_enter Try.func36, Try.ntmps36
  go_wp2
  go_ret
  exact ⟨rfl, rfl⟩

/-- A sector's bytes, with noughts behind. -/
def pad (l : List UInt8) : List UInt8 := l ++ List.replicate (1024 - l.length) 0
theorem pad_length {l : List UInt8} (h : l.length ≤ 1024) : (pad l).length = 1024 := by simp [pad]; omega

theorem cRead_range (gc : Nat) (at_ : Int) (w : World) (ha : at_ < 0 ∨ 4 ≤ at_) :
    Calls Try.prog 31 #[ptr gc, .int .i64 at_] w fun e w' => e = .returned (.tuple #[.slice none 0 0, .int .i64 2]) ∧ w = w' := by
  by_cases h0 : at_ < 0
  · go_enter Try.func31, Try.ntmps31
    go_wp2
    go_ret2
    exact ⟨rfl, rfl⟩
  · have h4 : 4 ≤ at_ := by omega
    clear ha
    go_enter Try.func31, Try.ntmps31
    go_wp2
    go_ret2
    exact ⟨rfl, rfl⟩

theorem cRead_down (gp gc : Nat) (L : Nat → List UInt8) (n f s : Int) (d : Bool) (at_ : Int) (w : World) (h : IsCell w gp gc L n) (hp : IsPw w gp f d true s) (h0 : 0 ≤ at_) (h4 : at_ < 4) :
    Calls Try.prog 31 #[ptr gc, .int .i64 at_] w fun e w' => e = .returned (.tuple #[.slice none 0 0, .int .i64 5]) ∧ w = w' := by
  obtain ⟨s0, s1, s2, s3, hb, _⟩ := h
  have c0 : w.cell? ⟨gc, 0, none⟩ = some (ptr gp) := Blk.cell hb 0
  have HP := Lib.hid hp
  have h0' : ¬ at_ < 0 := by omega
  have h4' : ¬ 4 ≤ at_ := by omega
  clear hb hp
  go_enter Try.func31, Try.ntmps31
  go_wp2_with (go_at_call 24; refine (pDown_any _ _ _ _ _ _ HP.out).mono ?_; rintro e w4 ⟨rfl, rfl⟩)
  go_ret2
  exact ⟨rfl, rfl⟩

set_option maxRecDepth 100000 in
set_option maxHeartbeats 1000000 in
theorem cRead_ok (gp gc : Nat) (L : Nat → List UInt8) (n f s : Int) (d : Bool) (k : Nat) (w : World) (h : IsCell w gp gc L n) (hp : IsPw w gp f d false s) (hk : k < 4) (hl : (L k).length ≤ 1024) :
    Calls Try.prog 31 #[ptr gc, .int .i64 (k : Int)] w fun e w' => ∃ r, e = .returned (.tuple #[r, .int .i64 0]) ∧ Own w' w.heap.size r (pad (L k)) ∧ Ext No w w' := by
  obtain ⟨s0, s1, s2, s3, hb, h0, h1, h2, h3⟩ := h
  have c0 : w.cell? ⟨gc, 0, none⟩ = some (ptr gp) := Blk.cell hb 0
  obtain ⟨u, hu, hcu⟩ : ∃ u, Bs w (Off2 gp gc) u (L k) ∧ w.cell? ⟨gc, 1 + k, none⟩ = some u := by
    rcases (by omega : k = 0 ∨ k = 1 ∨ k = 2 ∨ k = 3) with rfl | rfl | rfl | rfl
    · exact ⟨s0, h0, Blk.cell hb 1⟩
    · exact ⟨s1, h1, Blk.cell hb 2⟩
    · exact ⟨s2, h2, Blk.cell hb 3⟩
    · exact ⟨s3, h3, Blk.cell hb 4⟩
  have HP := Lib.hid hp
  have hgl := hb.lt
  have hki0 : (0 : Int) ≤ (k : Int) := by omega
  have hki4 : (k : Int) < 4 := by omega
  have hkn0 : ¬ (k : Int) < 0 := by omega
  have hkn4 : ¬ 4 ≤ (k : Int) := by omega
  clear hb hp h0 h1 h2 h3
  obtain ⟨A, c, rfl, hc, hm, _⟩ := hu.slice
  generalize hL : L k = l at *
  obtain ⟨m, hm0⟩ : ∃ m, m = 1024 - l.length := ⟨_, rfl⟩
  have hm1 : m ≤ 1024 := by omega
  have hw : IntKind.i64.wrap (1024 - (l.length : Int)) = (m : Int) := by rw [IntKind.wrap_i64]; omega
  have hpd : pad l = [l, List.replicate m 0].flatten := by simp [pad, hm0]
  have hll : [l, List.replicate m (0 : UInt8)].flatten.length ≤ 140737488351232 := by simp; omega
  have HP2 := Lib.hid (And.intro hpd hll)
  have hmk := fun W => run_make_row' (P := Try.prog) 41 5 (.int .u8 0) 1 Try.underlying41 info_u8 rfl .i64 .i64 m (by omega) (by omega) W
  clear hL hm0 hpd hll
  have HU := Lib.hid hu.any
  clear hu
  go_enter Try.func31, Try.ntmps31
  go_wp2_with (go_at_call 24; refine (pDown_any _ _ _ _ _ _ HP.out).mono ?_; rintro e w4 ⟨rfl, rfl⟩)
  go_region_held3 (fun w' => w'.cell? ⟨gc, 1 + k, none⟩ = some (.slice A l.length c)) (first | go_keep | exact (hx.cell (p := ⟨gc, 1 + k, none⟩) (by simp; omega) (fun h => h)).trans (by go_keep))
    (first | (go_at_call 80; refine (oJoin_any Any _ [l, List.replicate m 0] _ (by exact Parts.drew (Parts.lit2 (HU.out.ext_no ((Ext.refl _ _).alloc _)) (own_made _ 0 m (Nat.zero_le _) (by unfold maxLen; omega)).any trivial)) HP2.out.2).mono ?_; rintro e w2 ⟨Ar, nr, cr, rfl, hown, hx⟩))
  go_wp2
  go_ret2
  refine ⟨_, rfl, ?_, (((Ext.refl _ w).alloc _).alloc _).drew.trans hx⟩
  rw [HP2.out.1]
  exact hown.less (by simp; omega)

def upd (L : Nat → List UInt8) (k : Nat) (l : List UInt8) : Nat → List UInt8 := fun j => if j = k then l else L j

theorem addr_ne {g h : Nat} (hne : g ≠ h) (i j : Nat) : (⟨g, i, none⟩ : Addr) ≠ ⟨h, j, none⟩ := fun e => hne (by injection e)
theorem at_sector {w : World} {gc k : Nat} {t : TypeId} {p s0 s1 s2 s3 n : Value} (h : Blk w gc t #[p, s0, s1, s2, s3, n]) (hk : k < 4) :
    (∃ u, w.cell? ⟨gc, 1 + k, none⟩ = some u) ∧ w.frozen? ⟨gc, 1 + k, none⟩ = false ∧ w.cell? ⟨gc, 5, none⟩ = some n ∧ w.frozen? ⟨gc, 5, none⟩ = false ∧ gc < w.heap.size := by
  refine ⟨?_, h.frozen _, h.cell 5, h.frozen 5, h.lt⟩
  rcases (by omega : k = 0 ∨ k = 1 ∨ k = 2 ∨ k = 3) with rfl | rfl | rfl | rfl
  · exact ⟨_, h.cell 1⟩
  · exact ⟨_, h.cell 2⟩
  · exact ⟨_, h.cell 3⟩
  · exact ⟨_, h.cell 4⟩
set_option maxRecDepth 100000 in
set_option maxHeartbeats 1000000 in
/-- What a write does, if it is done. -/
theorem cWrite1_any (gp gc gb gx gk k : Nat) (L : Nat → List UInt8) (n : Int) (v : Value) (l : List UInt8) (w : World) (hk : k < 4) (hv : Bs w (Off2 gp gc) v l) (hll : l.length ≤ 1024) (hc : IsCell w gp gc L n)
    (hb : Blk w gb 41 #[v]) (hx : Blk w gx 43 #[ptr gc]) (hn : Blk w gk 3 #[.int .i64 (k : Int)]) (hpl : gp < w.heap.size) :
    Calls Try.prog 79 #[ptr gb, ptr gx, ptr gk] w fun e w' => e = .returned (.tuple #[]) ∧ IsCell w' gp gc (upd L k l) (wrap64 (n + 1)) ∧ Ext (One gc) w w' := by
  obtain ⟨A, c, rfl, hcl, hcm, _⟩ := hv.slice
  obtain ⟨s0, s1, s2, s3, hcb, h0, h1, h2, h3⟩ := hc
  have eb := hb.ne_ hcb (by decide)
  have ex := hx.ne_ hcb (by decide)
  have en := hn.ne_ hcb (by decide)
  have HX := Lib.hid (And.intro hx (And.intro hb hn))
  have B := Blk.c1 hb
  have X := Blk.c1 hx
  have N := Blk.c1 hn
  have HV := Lib.hid hv
  have HC := Lib.hid hcb
  have HS := Lib.hid (And.intro h0 (And.intro h1 (And.intro h2 h3)))
  have hgl := hcb.lt
  have Hl := Lib.hid hll
  have fin : ∀ w2 : World, Ext No w w2 → ∀ r, Own w2 w.heap.size r l → ∀ i, i = k → Ext (One gc) w ((w2.setCell ⟨gc, 1 + i, none⟩ r).setCell ⟨gc, 5, none⟩ (.int .i64 (wrap64 (n + 1)))) ∧ IsCell ((w2.setCell ⟨gc, 1 + i, none⟩ r).setCell ⟨gc, 5, none⟩ (.int .i64 (wrap64 (n + 1)))) gp gc (upd L k l) (wrap64 (n + 1)) := by
    rintro w2 hx2 r hr i rfl
    have hX : Ext (One gc) w2 ((w2.setCell ⟨gc, 1 + i, none⟩ r).setCell ⟨gc, 5, none⟩ (.int .i64 (wrap64 (n + 1)))) := (ext_set _ _ _ _).trans (ext_set _ _ _ _)
    refine ⟨(hx2.no).trans hX, ?_⟩
    have hR : Bs w2 (Off2 gp gc) r l := hr.bs.mono (fun b hb => ⟨by omega, by omega⟩)
    have kp : ∀ {s : Value} {m : List UInt8}, Bs w (Off2 gp gc) s m → Bs ((w2.setCell ⟨gc, 1 + i, none⟩ r).setCell ⟨gc, 5, none⟩ (.int .i64 (wrap64 (n + 1)))) (Off2 gp gc) s m := fun hs => (hs.ext_no hx2).ext hX (fun b hb _ => off2_one' hb)
    have hR2 := hR.ext hX (fun b hb _ => off2_one' hb)
    have hB := Blk.set_ (Blk.set_ (HC.out.ext_no hx2) (1 + i) r) 5 (.int .i64 (wrap64 (n + 1)))
    have k0 := kp HS.out.1
    have k1 := kp HS.out.2.1
    have k2 := kp HS.out.2.2.1
    have k3 := kp HS.out.2.2.2
    rcases (by omega : i = 0 ∨ i = 1 ∨ i = 2 ∨ i = 3) with rfl | rfl | rfl | rfl
    · exact ⟨r, s1, s2, s3, hB, hR2, k1, k2, k3⟩
    · exact ⟨s0, r, s2, s3, hB, k0, hR2, k2, k3⟩
    · exact ⟨s0, s1, r, s3, hB, k0, k1, hR2, k3⟩
    · exact ⟨s0, s1, s2, r, hB, k0, k1, k2, hR2⟩
  have FIN := Lib.hid fin
  clear hb hx hn hv hcb h0 h1 h2 h3 fin hll
  have hki0 : (0 : Int) ≤ (k : Int) := by omega
  have hki4 : (k : Int) < 4 := by omega
  have hne5 : ¬ 5 = 1 + k := by omega
  have hne5' : ¬ 1 + k = 5 := by omega
  go_enter Try.func79, Try.ntmps79
  go_wp2_with fail
  go_region_held3 (fun w' => w'.cell? ⟨gb, 0, none⟩ = some (.slice A l.length c) ∧ w'.cell? ⟨gx, 0, none⟩ = some (ptr gc) ∧ w'.cell? ⟨gk, 0, none⟩ = some (.int .i64 (k : Int)))
    (first | exact ⟨(hx2.cell (p := ⟨gb, 0, none⟩) (by simp; omega) (fun h => h)).trans (by go_keep), (hx2.cell (p := ⟨gx, 0, none⟩) (by simp; omega) (fun h => h)).trans (by go_keep), (hx2.cell (p := ⟨gk, 0, none⟩) (by simp; omega) (fun h => h)).trans (by go_keep)⟩ | exact ⟨(World.cell?_setCell_other _ _ _ _ (addr_ne eb.symm _ _)).trans B2.1, (World.cell?_setCell_other _ _ _ _ (addr_ne ex.symm _ _)).trans X2.1, (World.cell?_setCell_other _ _ _ _ (addr_ne en.symm _ _)).trans N2.1⟩ | go_keep)
    (first | (go_at_call 80; refine (oJoin_any Any _ [l] _ (by exact Parts.drew (Parts.lit1 HV.out.any trivial)) (by have := Hl.out; simp; omega)).mono ?_; rintro e w2 ⟨Ar, nr, cr, rfl, hown, hx2⟩; obtain ⟨⟨u2, C2⟩, C3⟩ := at_sector (Blk.ext_no (Blk.drew (Blk.alloc HC.out _)) hx2) hk; have X2 := Blk.c1 (Blk.ext_no (Blk.drew (Blk.alloc HX.out.1 _)) hx2); have B2 := Blk.c1 (Blk.ext_no (Blk.drew (Blk.alloc HX.out.2.1 _)) hx2); have N2 := Blk.c1 (Blk.ext_no (Blk.drew (Blk.alloc HX.out.2.2 _)) hx2)))
  go_wp2
  go_end0
  obtain ⟨h1, h2⟩ := FIN.out w2 (((Ext.refl _ w).alloc _).drew.trans hx2) _ (by simpa using hown.less (by simp)) k rfl
  exact ⟨rfl, h2, h1⟩

theorem enters_write (caps : Array Value) : ∀ W : World, (callFunc 79 caps).run Try.prog W = .ok (.enter 79 caps) W := fun W => by kernel_rfl


theorem cWrite_range (gc : Nat) (at_ : Int) (A : Option Addr) (n c : Nat) (w : World) (ha : at_ < 0 ∨ 4 ≤ at_) :
    Calls Try.prog 30 #[ptr gc, .int .i64 at_, .slice A n c] w fun e w' => e = .returned (.int .i64 2) ∧ Ext No w w' := by
  by_cases h0 : at_ < 0
  · clear ha
    go_enter Try.func30, Try.ntmps30
    go_wp2
    go_ret
    exact ⟨rfl, (((Ext.refl _ w).alloc _).alloc _).alloc _⟩
  · have h4 : 4 ≤ at_ := by omega
    clear ha
    go_enter Try.func30, Try.ntmps30
    go_wp2
    go_ret
    exact ⟨rfl, (((Ext.refl _ w).alloc _).alloc _).alloc _⟩
theorem cWrite_size (gc k : Nat) (A : Option Addr) (n c : Nat) (w : World) (hk : k < 4) (hn : 1024 < n) :
    Calls Try.prog 30 #[ptr gc, .int .i64 (k : Int), .slice A n c] w fun e w' => e = .returned (.int .i64 17) ∧ Ext No w w' := by
  have h0 : ¬ (k : Int) < 0 := by omega
  have h4 : ¬ 4 ≤ (k : Int) := by omega
  have h5 : (1024 : Int) < (n : Int) := by omega
  go_enter Try.func30, Try.ntmps30
  go_wp2
  go_ret
  exact ⟨rfl, (((Ext.refl _ w).alloc _).alloc _).alloc _⟩

/-- What a step that was answered, or not, is told by. -/
def okc (ok : Bool) : Int := if ok = true then 0 else 5
/-- The cell behind a write of l to sector k, done or not. -/
def CellDone (w : World) (gp gc k : Nat) (L : Nat → List UInt8) (l : List UInt8) (n : Int) (dd : Bool) : Prop :=
  IsCell w gp gc (if dd = true then upd L k l else L) (if dd = true then wrap64 (n + 1) else n)

set_option maxRecDepth 100000 in
set_option maxHeartbeats 1000000 in
theorem cWrite_any (gp gc k : Nat) (L : Nat → List UInt8) (n f s : Int) (d dn : Bool) (v : Value) (l : List UInt8) (w : World) (hk : k < 4) (hv : Bs w (Off2 gp gc) v l) (hll : l.length ≤ 1024) (hc : IsCell w gp gc L n)
    (hp : IsPw w gp f d dn s) (hf1 : -1 ≤ f) (hf2 : f ≤ 9223372036854775807) (hne : gc ≠ gp) :
    Calls Try.prog 30 #[ptr gc, .int .i64 (k : Int), v] w fun e w' => e = .returned (.int .i64 (okc (pok f dn))) ∧
      IsPw w' gp (pf' f dn) d (pdn' f dn) (ps' s dn) ∧ CellDone w' gp gc k L l n (pdone f d dn) ∧ Ext (Two gp gc) w w' := by
  obtain ⟨A, c, rfl, hcl, hcm, _⟩ := hv.slice
  have h0 : ¬ (k : Int) < 0 := by omega
  have h4 : ¬ 4 ≤ (k : Int) := by omega
  have h5 : ¬ (1024 : Int) < (l.length : Int) := by omega
  have HV := Lib.hid hv
  have HC := Lib.hid hc
  have HP := Lib.hid hp
  have hpl := Blk.lt hp
  have hgl := hc.lt
  have hgl1 : gc < w.heap.size + 1 := by omega
  have hgl2 : gc < w.heap.size + 1 + 1 := by omega
  obtain ⟨s0, s1, s2, s3, hcb, _⟩ := hc
  have c0 : w.cell? ⟨gc, 0, none⟩ = some (ptr gp) := Blk.cell hcb 0
  clear hv hp hcb
  go_enter Try.func30, Try.ntmps30
  go_wp2_with fail
  have hx3 : Ext No w _ := (((Ext.refl No w).alloc (.cells #[ptr gc] 43)).alloc (.cells #[.int .i64 (k : Int)] 3)).alloc (.cells #[.slice A l.length c] 41)
  have hb1 : Blk (((w.alloc (.cells #[ptr gc] 43)).alloc (.cells #[.int .i64 (k : Int)] 3)).alloc (.cells #[.slice A l.length c] 41)) w.heap.size 43 #[ptr gc] := ((Blk.new _ _ _).alloc _).alloc _
  have hb2 : Blk (((w.alloc (.cells #[ptr gc] 43)).alloc (.cells #[.int .i64 (k : Int)] 3)).alloc (.cells #[.slice A l.length c] 41)) (w.heap.size + 1) 3 #[.int .i64 (k : Int)] := by
    have := (Blk.new (w.alloc (.cells #[ptr gc] 43)) 3 #[.int .i64 (k : Int)]).alloc (.cells #[.slice A l.length c] 41)
    simpa using this
  have hb3 : Blk (((w.alloc (.cells #[ptr gc] 43)).alloc (.cells #[.int .i64 (k : Int)] 3)).alloc (.cells #[.slice A l.length c] 41)) (w.heap.size + 1 + 1) 41 #[.slice A l.length c] := by
    have := (Blk.new ((w.alloc (.cells #[ptr gc] 43)).alloc (.cells #[.int .i64 (k : Int)] 3)) 41 #[.slice A l.length c])
    simpa using this
  generalize ((w.alloc (.cells #[ptr gc] 43)).alloc (.cells #[.int .i64 (k : Int)] 3)).alloc (.cells #[.slice A l.length c] 41) = w3 at *
  have hsz := hx3.size
  have hc3 := HC.out.ext_no hx3
  have hv3 := HV.out.ext_no hx3
  refine (pStep_any gp 79 _ f s d dn _ (fun wa wb => IsPw wb gp (pf' f dn) d (pdn' f dn) (ps' s dn) ∧ CellDone wb gp gc k L l n (pdone f d dn) ∧ Ext (Two gp gc) wa wb)
    (enters_write _) (Blk.ext_no HP.out hx3) hf1 hf2 ?hdo ?hno).mono ?_
  case hdo =>
    intro hd w4 h4 hx4
    unfold CellDone
    rw [if_pos hd, if_pos hd]
    refine (cWrite1_any gp gc (w.heap.size + 1 + 1) w.heap.size (w.heap.size + 1) k L n _ l w4 hk (hv3.ext hx4 (fun b hb _ => off2_one hb)) hll (hc3.ext_pw hne hx4)
      (hb3.ext hx4 (by simp; omega)) (hb1.ext hx4 (by simp; omega)) (hb2.ext hx4 (by simp; omega)) (Blk.lt h4)).mono ?_
    rintro e w5 ⟨rfl, h5, hx5⟩
    have h6 : IsPw w5 gp _ _ _ _ := Blk.ext h4 hx5 (fun h => hne h.symm)
    exact ⟨rfl, ⟨h6, h5, (hx4.mono fun _ _ h => .inl h).trans (hx5.mono fun _ _ h => .inr h)⟩, h6.c2⟩
  case hno =>
    intro hd w4 h4 hx4
    have hd' : ¬ pdone f d dn = true := by rw [hd]; exact Bool.false_ne_true
    unfold CellDone
    rw [if_neg hd', if_neg hd']
    exact ⟨h4, hc3.ext_pw hne hx4, hx4.mono fun _ _ h => .inl h⟩
  rintro e w4 ⟨rfl, h6, h7, hx4⟩
  have HH := Lib.hid (And.intro h6 (And.intro h7 ((hx3.no).trans hx4)))
  clear h6 h7 hx4 hc3 hv3 HC HP HV
  cases hpo : pok f dn
  all_goals
    have Hpo := Lib.hid hpo
    clear hpo
    go_wp2
    go_ret
    exact ⟨by rw [Hpo.out]; rfl, HH.out.1, HH.out.2.1, HH.out.2.2⟩
end Go.Proofs.Ytbemmjejgklieaa
