/- The blocks that are taken: Clone of a row, Copy. -/
import Derived.Test.YtlfhfomidkadiaaSpaceNew
import Derived.Test.YtlfhfomidkadiaaBytes
set_option linter.unusedVariables false
set_option linter.unusedSimpArgs false
namespace Go.Proofs.Ytlfhfomidkadiaa
open Go.RowKit Go.Deep

theorem own_form {w : World} {base n size : Nat} {e : TypeId} {v : Value} {xs : List Value} (h : w.ownsRow base e size v n xs) (hn : 0 < n) : ∃ g cap cur, v = .slice (some ⟨g, 0, none⟩) n cap ∧ Blk w g e cur ∧ base ≤ g ∧ n ≤ cap ∧ cap ≤ maxLen ∧ cur.size = cap * size ∧ cur.toList.take (n * size) = xs := by
  rcases h.2 with ⟨_, h0⟩ | ⟨g, cap, cur, h1, h2, h3, h4, h5, h6, h7⟩
  · omega
  · exact ⟨g, cap, cur, h1, h3, h2, h4, h5, h6, h7⟩
theorem Bools.sl {w : World} {b : Nat} {L : List Bool} {c : Nat} (h : Bools w b L) (hc : L.length ≤ c) (hm : c ≤ maxLen) : Sl w Any 1 (.slice (some ⟨b, 0, none⟩) L.length c) L.length (L.map Value.bool) := by
  refine ⟨by simp, _, c, rfl, hc, hm, fun _ => ⟨b, 0, rfl, trivial, fun j u hu => ?_⟩⟩
  have hj : j < L.length := by have := (List.getElem?_eq_some_iff.1 hu).1; simpa using this
  rw [Nat.zero_add, h.cell hj]
  simpa [hj] using hu
theorem bools_nil (a : Addr) (n c : Nat) (W : World) : Sem.run Try.prog (binOp BinOp.eql 28 (.slice (some a) n c) (.slice none 0 0)) W = .ok (.bool false) W := by
  have u : Try.prog.underlying 28 = some (.slice 4) := Try.underlying28
  unfold binOp
  simp [go_sem, u]
  unfold Op.equal Op.maxDepth
  first
    | (rw [Op.equalIn]; simp [go_sem, u]; done)
    | (unfold Op.equalIn; simp [go_sem, u]; done)
    | rfl
    | kernel_rfl
set_option maxRecDepth 100000 in
set_option maxHeartbeats 1000000 in
theorem slClone_any (b c : Nat) (L : List Bool) (w : World) (h : Bools w b L) (hc : L.length ≤ c) (hm : c ≤ maxLen) (h0 : 0 < L.length) (hle : L.length ≤ 100000) :
    Calls Try.prog 46 #[.slice (some ⟨b, 0, none⟩) L.length c] w fun e w' => ∃ g' c', e = .returned (.slice (some ⟨g', 0, none⟩) L.length c') ∧ Bools w' g' L ∧ w.heap.size ≤ g' ∧ L.length ≤ c' ∧ c' ≤ maxLen ∧ Ext No w w' := by
  have HS := Lib.hid (h.sl hc hm)
  clear h
  go_enter Try.func46, Try.ntmps46
  have hnil := bools_nil
  go_wp2_with (at_builtin; refine wpList_app rfl (.tmp 5) (.tmp 6) _ rfl w.heap.size 4 (.bool false) 1 1 Try.underlying28 info_bool rfl (by omega) (.slice (some ⟨w.heap.size, 0, none⟩) 0 0) 0 [] (by simp [Act.eval, Act.put]) (by simpa using World.ownsRow_lit (base := w.heap.size) (e := 4) (size := 1) w #[] 0 (Nat.le_refl _) (by unfold maxLen; decide) rfl) Any (.slice (some ⟨b, 0, none⟩) L.length c) L.length (L.map Value.bool) (by simp [Act.eval, Act.put]) (by exact HS.out.ext_no ((Ext.refl No w).alloc _)) (by intro y hy; obtain ⟨z, _, rfl⟩ := List.mem_map.1 hy; rfl) (by unfold maxLen; omega) (by omega) (by simp) ?_; intro v2 w2 ho2 hg2 hv2; obtain ⟨g2, c2, cur, rfl, hb2, hg3, hc2, hm2, _, hcur⟩ := own_form ho2 (by omega); have HH := Lib.hid (And.intro hb2 (And.intro hg2 hcur)); clear ho2 hg2 hv2 hcur hb2)
  rw [Nat.zero_add] at *
  go_ret
  refine ⟨g2, c2, rfl, ⟨cur, HH.out.1, fun k hk => ?_⟩, hg3, hc2, hm2, Ext.grown ((Ext.refl No w).alloc _) HH.out.2.1 (fun k hk hl => absurd hl (by simp [Value.ownBlock] at hk; omega))⟩
  have h := HH.out.2.2
  rw [Nat.mul_one, List.nil_append] at h
  have hk2 : (cur.toList.take L.length)[k]? = cur.toList[k]? := List.getElem?_take_of_lt hk
  rw [h] at hk2
  rw [← Array.getElem?_toList, ← hk2]
  simp [hk]

set_option maxRecDepth 100000 in
set_option maxHeartbeats 1000000 in
theorem spCopy_any (g b c : Nat) (first : Int) (L : List Bool) (w : World) (h : IsSp w g b c first L) (h0 : 0 < L.length) (hle : L.length ≤ 100000) :
    Calls Try.prog 13 #[ptr g] w fun e w' => ∃ g' b' c', e = .returned (ptr g') ∧ IsSp w' g' b' c' first L ∧ w.heap.size ≤ g' ∧ w.heap.size ≤ b' ∧ Ext No w w' := by
  have B := Blk.c2 h.1
  have HC := Lib.hid (slClone_any b c L w.drew (h.2.2.2.2.ext ((Ext.refl No w).drew) (fun h => h)) h.2.1 h.2.2.1 h0 hle)
  have HS := Lib.hid h
  clear h
  go_enter Try.func13, Try.ntmps13
  go_wp2_with fail
  go_region_held3 (fun w' => w'.cell? ⟨g, 0, none⟩ = some (.int .i64 first) ∧ w'.cell? ⟨g, 1, none⟩ = some (.slice (some ⟨b, 0, none⟩) L.length c))
    (first | go_keep | exact ⟨(hx.cell (p := ⟨g, 0, none⟩) HS.out.1.lt (fun h => h)).trans (by go_keep), (hx.cell (p := ⟨g, 1, none⟩) HS.out.1.lt (fun h => h)).trans (by go_keep)⟩)
    (first | (go_at_call 46; refine HC.out.mono ?_; rintro e w2 ⟨g2, c2, rfl, hb, hg, hc2, hm2, hx⟩))
  have HH := Lib.hid (And.intro hb hx)
  clear hb hx
  go_wp2
  go_ret
  have hb := HH.out.1
  have hx := HH.out.2
  have hsz := hb.lt
  have hsx := hx.size
  simp at hg hsx
  refine ⟨w2.heap.size, g2, c2, rfl, ⟨Blk.new _ _ _, hc2, hm2, by omega, hb.ext ((Ext.refl No w2).alloc _) (fun h => h)⟩, hsx, hg, ?_⟩
  exact (((Ext.refl No w).drew).trans hx).alloc _
end Go.Proofs.Ytlfhfomidkadiaa
