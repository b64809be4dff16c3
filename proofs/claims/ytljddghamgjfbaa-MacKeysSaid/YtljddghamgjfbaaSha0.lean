/- Package sha: what its functions do. -/
import Derived.Test.YtljddghamgjfbaaArr
import Derived.Test.YtljddghamgjfbaaShaRot
set_option linter.unusedVariables false
set_option linter.unusedSimpArgs false
namespace Go.Proofs.Ytljddghamgjfbaa
open Go.RowKit Go.Deep Sh

theorem und_w64 : Try.prog.underlying 131 = some (.array 64 104) := by kernel_rfl
theorem size_w64 : (Try.prog.info? 131).map (·.size) = some 64 := by kernel_rfl
theorem u32s_kk : (u32s kk).toArray = #[.int .u32 1116352408, .int .u32 1899447441, .int .u32 3049323471, .int .u32 3921009573, .int .u32 961987163, .int .u32 1508970993, .int .u32 2453635748, .int .u32 2870763221, .int .u32 3624381080, .int .u32 310598401, .int .u32 607225278, .int .u32 1426881987, .int .u32 1925078388, .int .u32 2162078206, .int .u32 2614888103, .int .u32 3248222580, .int .u32 3835390401, .int .u32 4022224774, .int .u32 264347078, .int .u32 604807628, .int .u32 770255983, .int .u32 1249150122, .int .u32 1555081692, .int .u32 1996064986, .int .u32 2554220882, .int .u32 2821834349, .int .u32 2952996808, .int .u32 3210313671, .int .u32 3336571891, .int .u32 3584528711, .int .u32 113926993, .int .u32 338241895, .int .u32 666307205, .int .u32 773529912, .int .u32 1294757372, .int .u32 1396182291, .int .u32 1695183700, .int .u32 1986661051, .int .u32 2177026350, .int .u32 2456956037, .int .u32 2730485921, .int .u32 2820302411, .int .u32 3259730800, .int .u32 3345764771, .int .u32 3516065817, .int .u32 3600352804, .int .u32 4094571909, .int .u32 275423344, .int .u32 430227734, .int .u32 506948616, .int .u32 659060556, .int .u32 883997877, .int .u32 958139571, .int .u32 1322822218, .int .u32 1537002063, .int .u32 1747873779, .int .u32 1955562222, .int .u32 2024104815, .int .u32 2227730452, .int .u32 2361852424, .int .u32 2428436474, .int .u32 2756734187, .int .u32 3204031479, .int .u32 3329325298] := by kernel_rfl
set_option maxRecDepth 100000 in
set_option maxHeartbeats 2000000 in
theorem shaK_any (w : World) : Calls Try.prog 104 #[] w fun e w' => e = .returned (.agg (u32s kk).toArray) ∧ Ext No w w' := by
  go_enter Try.func104, Try.ntmps104
  go_wp2_with ((with_reducible show wpList _ _ _ _ _ _); refine store_blk (o := ⟨none, _, _, _, _, _⟩) 131 (.tmp 0) (.tmp 1) rfl rfl (Blk.new w _ _) rfl rfl rfl size_w64 (by rw [← u32s_kk]; exact u32s_one kk) ?_; intro w1 hb1 hx1)
  rw [← u32s_kk] at hb1
  go_wp2
  exact bodyPost_ret (v := .agg (u32s kk).toArray) (ret_blk Try.results104 hb1 rfl _ und_w64 rfl size_w64) rfl ⟨rfl, ((Ext.refl No w).alloc _).transS hx1 (fun i hi h => absurd hi (by have h' : i = w.heap.size := h; omega))⟩
/-- A sum that is not at its end: the words h, the rest that was not taken, how many bytes came. -/
def V8cs (v : V8) (rv : Value) (n : Nat) : Array Value := #[.int .u32 (v.a : Int), .int .u32 (v.b : Int), .int .u32 (v.c : Int), .int .u32 (v.d : Int), .int .u32 (v.e : Int), .int .u32 (v.f : Int), .int .u32 (v.g : Int), .int .u32 (v.h : Int), rv, .int .u64 (n : Int)]
set_option maxRecDepth 100000 in
set_option maxHeartbeats 2000000 in
theorem shaNew_any (w : World) : Calls Try.prog 41 #[] w fun e w' => e = .returned (pB w.heap.size) ∧ w' = w.alloc (.cells (V8cs h0 (.slice none 0 0) 0) 111) := by
  go_enter Try.func41, Try.ntmps41
  go_wp2
  go_ret
  exact ⟨rfl, rfl⟩
end Go.Proofs.Ytljddghamgjfbaa
