/- Package sha: more bytes come. -/
import Derived.Test.YtljddghamgjfbaaShaTake
import Derived.Deep.LoopGhost
set_option linter.unusedVariables false
set_option linter.unusedSimpArgs false
namespace Go.Proofs.Ytljddghamgjfbaa
open Go.RowKit Go.Deep Sh

theorem Bs.pre {w : World} {F : Nat → Prop} {b off n c j m c' : Nat} {l : List UInt8} (h : Bs w F (.slice (some ⟨b, off, none⟩) n c) l) (hj : j ≤ l.length) (hm : m = j) (hc' : m ≤ c') (hx : c' ≤ maxLen) : Bs w F (.slice (some ⟨b, off, none⟩) m c') (l.take j) := by
  have := h.sub (i := 0) (j := j) (Nat.zero_le _) hj (m := m) (c' := c') (by omega) hc' hx
  rwa [Nat.add_zero, List.drop_zero] at this
theorem run_one (k : Nat) (h : V8) (l : List UInt8) : run (k + 1) h l = comp (run k h l) ((l.drop (64 * k)).take 64) := by rw [run_add]; rfl

theorem ext_one (g i : Nat) (w : World) (u : Value) : Ext (One g) w (w.setCell ⟨g, i, none⟩ u) := Ext.setCell (S := One g) (Ext.refl _ w) (fun _ => rfl) u
/-- A sum that is not at its end, of the bytes m: its block g, and the slice rv of what was not taken. -/
structure St (w : World) (g : Nat) (rv : Value) (m : List UInt8) : Prop where
  st : Blk w g 111 (V8cs (hOf m) rv m.length)
  rm : Mid w rv (rOf m)
/-- What a call may write: the block, and where the rest lies. -/
abbrev Foot (g : Nat) (rv : Value) : Nat → Prop := fun k => k = g ∨ rv.ownBlock = some k
theorem Mid.not_st {w : World} {g : Nat} {rv : Value} {l : List UInt8} {cs : Array Value} (h : Mid w rv l) (hb : Blk w g 111 cs) : ¬ rv.ownBlock = some g := by
  intro e
  obtain ⟨_, cs', h'⟩ := h.blk g e
  exact (h'.ne_ hb (by decide)) rfl
/-- Within Write, where k blocks were taken. -/
structure WrS (w0 : World) (g : Nat) (rv : Value) (T : List UInt8) (H : V8) (N k : Nat) (rw : Value) (w : World) : Prop where
  st : Blk w g 111 (V8cs (run k H T) rw N)
  rm : Mid w rw (T.drop (64 * k))
  x : Ext (Foot g rv) w0 w
  bl : rw.ownBlock = rv.ownBlock ∨ ∃ j, rw.ownBlock = some j ∧ w0.heap.size ≤ j
set_option maxRecDepth 100000 in
set_option maxHeartbeats 4000000 in
theorem shaWrite_any (g : Nat) (rv : Value) (m x : List UInt8) (v : Value) (w : World) (hst : St w g rv m) (hv : Bs w (fun k => k ≠ g) v x) (hb : m.length + x.length ≤ 140737488351232) :
    Calls Try.prog 42 #[pB g, v] w fun e w' => e = .returned (.tuple #[]) ∧ ∃ rv', St w' g rv' (m ++ x) ∧ Ext (Foot g rv) w w' ∧ (rv'.ownBlock = rv.ownBlock ∨ ∃ j, rv'.ownBlock = some j ∧ w.heap.size ≤ j) := by
  have hs := hv
  obtain ⟨A, c, rfl, hc, hm, _⟩ := hv.slice
  obtain ⟨Ar, cr, hrv, hcr, hmr⟩ := hst.rm.slice
  subst hrv
  have hok := hOf_ok m
  have hrl := rOf_length m
  obtain ⟨H, hH⟩ : ∃ H, hOf m = H := ⟨_, rfl⟩
  obtain ⟨R, hR⟩ : ∃ R, rOf m = R := ⟨_, rfl⟩
  obtain ⟨N, hN⟩ : ∃ N, m.length + x.length = N := ⟨_, rfl⟩
  obtain ⟨N0, hN0⟩ : ∃ N0, m.length = N0 := ⟨_, rfl⟩
  obtain ⟨NX, hNX⟩ : ∃ NX, x.length = NX := ⟨_, rfl⟩
  have hst1 := hst.st
  have hrm1 := hst.rm
  rw [hH] at hst1 hok
  rw [hR] at hrm1 hrl
  rw [hN0] at hst1
  have c8 : w.cell? ⟨g, 8, none⟩ = some (.slice Ar (rOf m).length cr) := hst.st.cell 8
  have c9 : w.cell? ⟨g, 9, none⟩ = some (.int .u64 (N0 : Int)) := hst1.cell 9
  have f8 := hst1.frozen 8
  have f9 := hst1.frozen 9
  rw [hR] at hst1 c8
  have hg := hst1.lt
  have HFIN : Hid (∀ (k : Nat) (rw : Value) (w' : World), WrS w g (.slice Ar R.length cr) (R ++ x) H N k rw w' → 64 * k ≤ (R ++ x).length → (R ++ x).length < 64 * k + 64 → St w' g rw (m ++ x)) := Lib.hid (by
    intro k rw w' hw h1 h2
    have e1 : nb (m ++ x) = nb m + k := by
      unfold nb at *
      rw [List.length_append] at *
      have : R.length = m.length % 64 := hrl
      omega
    have e2 : hOf (m ++ x) = run k H (R ++ x) := by
      rw [hOf_split (m ++ x) (nb m) (by unfold nb; rw [List.length_append]; omega), hOf_old, rOf_old, hH, hR, e1]
      congr 1
      omega
    have e3 : rOf (m ++ x) = (R ++ x).drop (64 * k) := by
      rw [← hR, ← rOf_old, List.drop_drop]
      unfold rOf
      rw [e1]
      congr 1
      omega
    refine ⟨?_, by rw [e3]; exact hw.rm⟩
    rw [e2, List.length_append, hN]
    exact hw.st)
  -- behind the first two statements
  have hset : Blk (w.setCell ⟨g, 9, none⟩ (.int .u64 (N : Int))) g 111 (V8cs H (.slice Ar R.length cr) N) := hst1.set_ 9 _
  have HX1 : Hid (Ext (Foot g (.slice Ar R.length cr)) w (w.setCell ⟨g, 9, none⟩ (.int .u64 (N : Int)))) := Lib.hid ((Ext.refl _ w).setCell (fun _ => .inl rfl) _)
  have HM1 : Hid (Mid (w.setCell ⟨g, 9, none⟩ (.int .u64 (N : Int))) (.slice Ar R.length cr) R) := Lib.hid (hrm1.ext (ext_one g 9 w _) (fun b hb h => hrm1.not_st hst1 (by rw [← (show b = g from h)]; exact hb)))
  have HV1 : Hid (Bs (w.setCell ⟨g, 9, none⟩ (.int .u64 (N : Int))) Any (.slice A x.length c) x) := Lib.hid (Bs.any (hs.ext (ext_one g 9 w _) (fun b hb _ h => hb h)))
  have HB1 := Lib.hid hset
  have HN0 : Hid (x.length = NX) := Lib.hid hNX
  have hNN : N0 + NX = N := by omega
  have hNb : N ≤ 140737488351232 := by omega
  have HRL : Hid (R.length ≤ 64) := Lib.hid (by omega)
  have HRX : Hid (R.length + x.length ≤ 140737488355328) := Lib.hid (by omega)
  have HOK := Lib.hid hok
  rw [hR]
  rw [hNX] at HV1
  rw [hNX]
  obtain ⟨RL, hRL⟩ : ∃ n, R.length = n := ⟨_, rfl⟩
  obtain ⟨T, hT⟩ : ∃ T, R ++ x = T := ⟨_, rfl⟩
  rw [hT] at HFIN
  have HT := Lib.hid hT
  have HTL : Hid (T.length ≤ 140737488355328) := Lib.hid (by rw [← hT, List.length_append]; exact HRX.out)
  rw [hRL] at c8 HX1 HM1 HB1 HFIN
  rw [hRL]
  have HNN := Lib.hid hNN
  have hcast : ((N : Nat) : Int) = (N0 : Int) + (NX : Int) := by omega
  have HNS : Hid (¬ (Value.slice Ar RL cr).ownBlock = some g) := Lib.hid (HM1.out.not_st HB1.out)
  rw [hcast] at HX1 HM1 HV1 HB1
  clear hT hcast hst hst1 hrm1 hv hs hok hrl hH hR hN hN0 hNX hset hRL hb hcr hmr
  go_enter Try.func42, Try.ntmps42
  go_wp2_with (at_builtin; refine app_mid (.tmp 18) (.tmp 19) rfl rfl _ _ _ _ rfl rfl HM1.out _ HV1.out HRX.out ?_; intro rw2 w2 hm2 hx2 hat2; rw [HT.out] at hm2; obtain ⟨A2, k2, e2, hc2, hmx2⟩ := hm2.slice; subst e2; have HB2 := Lib.hid (HB1.out.ext hx2 (fun h => HNS.out h)); have c8b := HB2.out.cell 8; have f8b := HB2.out.frozen 8; have g2 := HB2.out.lt; simp only [V8cs] at c8b; have HM2 := Lib.hid hm2; have HX2 := Lib.hid hx2; have HAT := Lib.hid hat2; clear hc2 hmx2 hm2 hx2 hat2 c8 c9 f8 f9)
  have HW : Hid (WrS w g (.slice Ar RL cr) T H N 0 (.slice A2 T.length k2) (w2.setCell ⟨g, 8, none⟩ (.slice A2 T.length k2))) := Lib.hid (by
    have hnot := HM2.out.not_st HB2.out
    refine ⟨HB2.out.set_ 8 _, ?_, ?_, ?_⟩
    · rw [Nat.mul_zero, List.drop_zero]
      exact HM2.out.ext (ext_one g 8 w2 _) (fun b hb h => hnot (by rw [← (show b = g from h)]; exact hb))
    · exact (HX1.out.transS HX2.out (fun i hi h => .inr h)).setCell (fun _ => .inl rfl) _
    · exact HAT.out.imp id fun ⟨j, h1, h2⟩ => ⟨j, h1, by simpa [World.setCell] using h2⟩)
  clear HX1 HX2 HM1 HM2 HB1 HB2 HAT c8b f8b g2 HV1 HNS HRX HRL
  go_loopg [] (T.length) (fun gk wr => ∃ (k : Nat) (rw : Value), gk = T.length - 64 * k ∧ 64 * k ≤ T.length ∧ Hid (WrS w g (.slice Ar RL cr) T H N k rw wr))
  case atStart => exact ⟨0, _, by omega, by omega, HW⟩
  case round =>
    obtain ⟨k, rw, hgk, hk, HK⟩ := hrel
    clear HW
    obtain ⟨A3, k3, hrw3, hc3, hm3⟩ := HK.out.rm.slice
    have hl3 : (T.drop (64 * k)).length = T.length - 64 * k := by rw [List.length_drop]
    rw [hl3] at hrw3 hc3
    have htl := HTL.out
    unfold maxLen at hm3
    subst hrw3
    obtain ⟨n3, hn3⟩ : ∃ n3, T.length - 64 * k = n3 := ⟨_, rfl⟩
    rw [hn3] at HK hc3 hgk
    have c8 := HK.out.st.cell 8
    have f8 := HK.out.st.frozen 8
    have hlt := HK.out.st.lt
    simp only [V8cs] at c8
    have HN3 := Lib.hid hn3
    have hn3b : n3 ≤ 140737488355328 := by omega
    have HKL := Lib.hid hk
    clear hn3 htl hl3 hk
    by_cases h64 : 64 ≤ n3
    · have hne : ∃ b off, A3 = some ⟨b, off, none⟩ := by
        rcases HK.out.rm with ⟨e, _⟩ | ⟨b, off, cap, cur, e, _⟩
        · injection e with _ e _; omega
        · injection e with e _ _; exact ⟨b, off, e⟩
      obtain ⟨b, off, rfl⟩ := hne
      have HM := Lib.hid HK.out.rm
      have hok := run_ok k H T HOK.out
      have HR1 := Lib.hid (run_one k H T)
      have hd : (T.drop (64 * k)).length = n3 := by rw [List.length_drop]; exact HN3.out
      have hd2 : (T.drop (64 * k)).drop 64 = T.drop (64 * (k + 1)) := by rw [List.drop_drop]; congr 1
      have HD := Lib.hid hd
      have HD2 := Lib.hid hd2
      have HTK := Lib.hid (shaTake_any g (run k H T) hok (.slice (some ⟨b, off, none⟩) n3 k3) N (.slice (some ⟨b, off, none⟩) 64 k3) ((T.drop (64 * k)).take 64) wr HK.out.st (HM.out.any.pre (j := 64) (by rw [hd]; exact h64) rfl (by omega) (by unfold maxLen; omega)) (by rw [List.length_take, hd]; omega))
      clear hok hd hd2
      by_cases hcap : k3 = 64
      · subst hcap
        obtain rfl : n3 = 64 := by omega
        go_wp2_with (go_at_call 81; with_reducible refine HTK.out.mono ?_; rintro e' w5 ⟨rfl, hb5, hx5⟩; rw [← HR1.out] at hb5; have HB5 := Lib.hid hb5; have HX5 := Lib.hid hx5; have c85 := hb5.cell 8; have f85 := hb5.frozen 8; have hl5 := hb5.lt; simp only [V8cs] at c85; clear hb5 hx5 c8 f8 hlt)
        have hW : WrS w g (.slice Ar RL cr) T H N (k + 1) (.slice (some ⟨b, off, none⟩) 0 0) (w5.setCell ⟨g, 8, none⟩ (.slice (some ⟨b, off, none⟩) 0 0)) := by
          have hnb : ¬ b = g := fun e => HK.out.rm.not_st HK.out.st (by rw [← e]; rfl)
          have hm5 := (HM.out.ext HX5.out (fun b' hb' h => hnb (by injection hb' with hb'; exact hb'.trans h))).ext (ext_one g 8 w5 (.slice (some ⟨b, off, none⟩) 0 0)) (fun b' hb' h => hnb (by injection hb' with hb'; exact hb'.trans h))
          refine ⟨HB5.out.set_ 8 _, ?_, ?_, ?_⟩
          · rw [← HD2.out, List.drop_of_length_le (by rw [HD.out]; omega)]; exact hm5.cut0 HD.out.symm
          · exact (HK.out.x.transS HX5.out (fun i hi h => .inl h)).setCell (fun _ => .inl rfl) _
          · exact HK.out.bl
        have HWN := Lib.hid hW
        clear hW c85 f85 hl5
        go_roundg (T.length - 64 * (k + 1))
        case measure => have := HN3.out; have := HKL.out; omega
        case rel => exact ⟨k + 1, _, rfl, by have := HN3.out; have := HKL.out; omega, HWN⟩
      · go_wp2_with (go_at_call 81; with_reducible refine HTK.out.mono ?_; rintro e' w5 ⟨rfl, hb5, hx5⟩; rw [← HR1.out] at hb5; have HB5 := Lib.hid hb5; have HX5 := Lib.hid hx5; have c85 := hb5.cell 8; have f85 := hb5.frozen 8; have hl5 := hb5.lt; simp only [V8cs] at c85; clear hb5 hx5 c8 f8 hlt)
        have hW : WrS w g (.slice Ar RL cr) T H N (k + 1) (.slice (some ⟨b, off + 64, none⟩) (n3 - 64) (k3 - 64)) (w5.setCell ⟨g, 8, none⟩ (.slice (some ⟨b, off + 64, none⟩) (n3 - 64) (k3 - 64))) := by
          have hnb : ¬ b = g := fun e => HK.out.rm.not_st HK.out.st (by rw [← e]; rfl)
          have hm5 := (HM.out.ext HX5.out (fun b' hb' h => hnb (by injection hb' with hb'; exact hb'.trans h))).ext (ext_one g 8 w5 (.slice (some ⟨b, off + 64, none⟩) (n3 - 64) (k3 - 64))) (fun b' hb' h => hnb (by injection hb' with hb'; exact hb'.trans h))
          refine ⟨HB5.out.set_ 8 _, ?_, ?_, ?_⟩
          · rw [← HD2.out]; exact hm5.cut (by rw [HD.out]; exact h64)
          · exact (HK.out.x.transS HX5.out (fun i hi h => .inl h)).setCell (fun _ => .inl rfl) _
          · exact HK.out.bl
        have HWN := Lib.hid hW
        clear hW c85 f85 hl5
        go_roundg (T.length - 64 * (k + 1))
        case measure => have := HN3.out; have := HKL.out; omega
        case rel => exact ⟨k + 1, _, rfl, by have := HN3.out; have := HKL.out; omega, HWN⟩
    · have hF := HFIN.out k _ wr (by rw [HN3.out] at *; exact HK.out) HKL.out (by have := HN3.out; omega)
      have HF := Lib.hid hF
      have HX := Lib.hid HK.out.x
      have HBL := Lib.hid HK.out.bl
      clear hF HFIN
      go_wp2_with fail
      go_end0
      exact ⟨rfl, _, HF.out, HX.out, HBL.out⟩
end Go.Proofs.Ytljddghamgjfbaa
