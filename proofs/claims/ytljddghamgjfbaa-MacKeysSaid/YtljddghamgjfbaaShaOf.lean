/- Package sha: the sum of parts. -/
import Derived.Test.YtljddghamgjfbaaShaSum
set_option linter.unusedVariables false
set_option linter.unusedSimpArgs false
namespace Go.Proofs.Ytljddghamgjfbaa
open Go.RowKit Go.Deep Sh

theorem Bs.old {w : World} {F : Nat → Prop} {v : Value} {l : List UInt8} (h : Bs w F v l) : Bs w (fun b => F b ∧ b < w.heap.size) v l := by
  obtain ⟨h1, A, c, hv, hc, hm, hn⟩ := h
  refine ⟨h1, A, c, hv, hc, hm, fun h0 => ?_⟩
  obtain ⟨b, off, hA, hF, hcell⟩ := hn h0
  refine ⟨b, off, hA, ⟨hF, ?_⟩, hcell⟩
  have := hcell 0 _ (u8s_get (k := 0) h0)
  exact World.block_lt_of_cell? w _ this
/-- Within Of, where k parts came. -/
structure OfS (w0 : World) (g : Nat) (rv : Value) (m : List UInt8) (w : World) : Prop where
  st : St w g rv m
  x : Ext No w0 w
  r : Blk w w0.heap.size 45 (u8s (List.replicate 32 0)).toArray
  lg : w0.heap.size < g
  lr : ∀ k, rv.ownBlock = some k → w0.heap.size < k
theorem OfS.write {w0 w w' : World} {g : Nat} {rv rv' : Value} {m x : List UInt8} (h : OfS w0 g rv m w) (hs : St w' g rv' (m ++ x)) (hx : Ext (Foot g rv) w w') (hr : rv'.ownBlock = rv.ownBlock ∨ ∃ j, rv'.ownBlock = some j ∧ w.heap.size ≤ j) : OfS w0 g rv' (m ++ x) w' := by
  have hlg := h.lg
  refine ⟨hs, h.x.transS hx (fun i hi hf => ?_), h.r.ext hx (fun hf => ?_), h.lg, fun k hk => ?_⟩
  · rcases hf with e | e
    · omega
    · have := h.lr i e; omega
  · rcases hf with e | e
    · omega
    · have := h.lr _ e; omega
  · rcases hr with e | ⟨j, e, hj⟩
    · rw [e] at hk; exact h.lr k hk
    · rw [e] at hk; injection hk with hk; subst hk; have := h.r.lt; omega
set_option maxRecDepth 100000 in
set_option maxHeartbeats 4000000 in
theorem shaOf_any (F : Nat → Prop) (v : Value) (ls : List (List UInt8)) (w : World) (h : Parts w F v ls) (hb : ls.flatten.length ≤ 140737488351000) :
    Calls Try.prog 38 #[v] w fun e w' => e = .returned (.agg (u8s (sha ls.flatten)).toArray) ∧ Ext No w w' := by
  obtain ⟨A, c, rfl, hc, hm, b, o, hA⟩ := h.slice
  unfold maxLen at hm
  have HA := Lib.hid hA
  have HF := Lib.hid (flat_take ls)
  have HE := Lib.hid (flen_le ls)
  have HB := Lib.hid hb
  have hst0 : OfS w (w.heap.size + 1) (.slice none 0 0) [] ((w.alloc (.cells (u8s (List.replicate 32 0)).toArray 45)).alloc (.cells (V8cs h0 (.slice none 0 0) 0) 111)) := by
    refine ⟨⟨?_, Mid.nil _⟩, ((Ext.refl No w).alloc _).alloc _, (Blk.new w _ _).alloc _, by omega, fun k hk => by cases hk⟩
    have := Blk.new (w.alloc (.cells (u8s (List.replicate 32 0)).toArray 45)) 111 (V8cs h0 (.slice none 0 0) 0)
    rw [World.size_alloc] at this
    exact this
  have HS0 := Lib.hid hst0
  clear hA h hb hst0
  go_enter Try.func38, Try.ntmps38
  go_wp2_with (go_at_call 41; refine (shaNew_any _).mono ?_; rintro e1 w1 ⟨rfl, rfl⟩)
  go_loopw [9] (fun i wr => ∃ (k : Nat) (rv : Value), k ≤ ls.length ∧ i = .int .i64 k ∧ Hid (OfS w (w.heap.size + 1) rv (ls.take k).flatten wr)) (fun i _ => ls.length - (intOf i).toNat)
  case atStart => exact ⟨0, _, by omega, rfl, HS0⟩
  case round =>
    obtain ⟨k, rv, hk, rfl, HK⟩ := hrel
    clear HS0
    by_cases hlt : k < ls.length
    · obtain ⟨A', c', rfl, ⟨_, hbl⟩, e1, hbs⟩ := HA.out k hlt
      have e2 : wr.cell? ⟨b, o + k, none⟩ = _ := (HK.out.x.cell (p := ⟨b, o + k, none⟩) hbl (fun h => h)).trans e1
      have HBS := Lib.hid ((hbs.old.ext_no HK.out.x).mono (F' := fun j => j ≠ w.heap.size + 1) (fun j hj e => by have := hj.2; omega))
      have hlen : (ls.take k).flatten.length + ls[k].length ≤ 140737488351232 := by
        have h1 := HE.out (k + 1)
        unfold flen at h1
        rw [HF.out k hlt, List.length_append] at h1
        have := HB.out
        omega
      have HLN := Lib.hid hlen
      have HT := Lib.hid (HF.out k hlt)
      clear e1 hbs hlen
      go_wp2_with (go_at_call 42; refine (shaWrite_any _ rv (ls.take k).flatten ls[k] _ wr HK.out.st HBS.out HLN.out).mono ?_; rintro e5 w5 ⟨rfl, rv5, hs5, hx5, hr5⟩; have HK5 := Lib.hid (HK.out.write hs5 hx5 hr5); clear hs5 hx5 hr5)
      go_roundw
      case rel => exact ⟨k + 1, rv5, by omega, by go_num, by rw [HT.out]; exact HK5⟩
      case measure => simp [intOf]; omega
    · obtain rfl : k = ls.length := by omega
      rw [List.take_length] at HK
      obtain ⟨L, hL⟩ : ∃ L, sha ls.flatten = L := ⟨_, rfl⟩
      have HLD := Lib.hid hL
      have HSUM := Lib.hid (shaSum_any _ rv ls.flatten wr HK.out.st HB.out)
      have hdl : (sha ls.flatten).length = 32 := by unfold sha; rw [← digK_all]; exact digK_length _ 8 (by omega)
      rw [hL] at HSUM hdl
      have HDL2 := Lib.hid (show (u8s L).toArray.size = 32 by rw [List.size_toArray, u8s_length]; exact hdl)
      have HR := Lib.hid HK.out.r
      have HX := Lib.hid HK.out.x
      clear hL hdl HK hlt hk
      go_wp2_with (first
        | (go_at_call 43; refine HSUM.out.mono ?_; rintro e6 w6 ⟨rfl, hx6⟩; have HX6 := Lib.hid (HX.out.trans hx6); have HR6 := Lib.hid (HR.out.ext_no hx6); clear hx6)
        | ((with_reducible show wpList _ _ _ _ _ _); refine store_blk (o := ⟨none, _, _, _, _, _⟩) 45 (.tmp 2) (.tmp 18) rfl rfl HR6.out rfl rfl (by rw [HDL2.out]; rfl) (by rw [HDL2.out]; exact size_b32) (u8s_one' _) ?_; intro w9 hb9 hx9; have HB9 := Lib.hid hb9; have HX9 := Lib.hid (HX6.out.transS hx9 (fun i hi h => absurd hi (by have h' : i = w.heap.size := h; omega))); clear hb9 hx9))
      exact bodyPost_ret (v := .agg (u8s L).toArray) (ret_blk Try.results38 HB9.out rfl _ und_b32 rfl (by rw [HDL2.out]; exact size_b32)) rfl ⟨by rw [HLD.out], HX9.out⟩
theorem sha_length (m : List UInt8) : (sha m).length = 32 := by unfold sha; rw [← digK_all]; exact digK_length _ 8 (by omega)
end Go.Proofs.Ytljddghamgjfbaa
