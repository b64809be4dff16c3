/- []byte("..") of a constant: the block that the call lays for it, marked behind its end. -/
import Derived.Test.YtljddghamgjfbaaBytes
set_option linter.unusedVariables false
set_option linter.unusedSimpArgs false
namespace Go.Proofs.Ytljddghamgjfbaa
open Go.RowKit Go.Deep

/-- The world behind []byte of a constant string whose bytes are cs. -/
def strLit (W : World) (cs : Array Value) : World := (W.alloc (.cells cs 5)).freeze ⟨W.heap.size, cs.size, none⟩ 1
theorem strLit_heap (W : World) (cs : Array Value) : (strLit W cs).heap = (W.alloc (.cells cs 5)).heap.modify W.heap.size (fun | .cells c elem (lo, hi) => .cells c elem (if lo == hi then (cs.size, cs.size + 1) else (min lo cs.size, max hi (cs.size + 1))) | o => o) := by
  unfold strLit World.freeze
  rw [if_neg (by decide)]
  rfl
@[simp] theorem size_strLit (W : World) (cs : Array Value) : (strLit W cs).heap.size = W.heap.size + 1 := by rw [strLit_heap, Array.size_modify, World.size_alloc]
theorem strLit_far (W : World) (cs : Array Value) (b : Nat) (hb : b < W.heap.size) : (strLit W cs).heap[b]? = W.heap[b]? := by
  rw [strLit_heap, Array.getElem?_modify, if_neg (by omega)]
  exact Below.heap_alloc W _ b hb
theorem strLit_new (W : World) (cs : Array Value) : (strLit W cs).heap[W.heap.size]? = some (.cells cs 5 (cs.size, cs.size + 1)) := by
  rw [strLit_heap, Array.getElem?_modify, if_pos rfl, heap_alloc_new]
  rfl
theorem Ext.strLit {S : Nat → Prop} {a b : World} (h : Ext S a b) (cs : Array Value) : Ext S a (strLit b cs) := by
  refine ⟨h.os, h.tape, h.output, ?_, fun i hi hn => ?_⟩
  · have := h.size; rw [size_strLit]; omega
  · rw [strLit_far _ _ _ (by have := h.size; omega)]; exact h.block i hi hn
theorem run_conv_new (cs : Array Value) (n c : Nat) (g : Nat) (W : World) (hg : g = W.heap.size) : Sem.run Try.prog (convert 27 27 (.slice (some ⟨g, 0, none⟩) n c)) (W.alloc (.cells cs 5)) = .ok (.slice (some ⟨g, 0, none⟩) n c) (strLit W cs) := by
  subst hg
  have h : (W.alloc (.cells cs 5)).shape? W.heap.size = some (5, cs.size) := by
    unfold World.shape?
    rw [heap_alloc_new]
  have u : Try.prog.underlying 27 = some (.slice 5) := Try.underlying27
  have u2 : Try.prog.underlying 5 = some (.int .u8) := Try.underlying5
  unfold convert markStringish strLit
  simp [go_sem, h, u, u2]
theorem bs_strLit (W : World) (l : List UInt8) (hl : l.length ≤ maxLen) {g : Nat} (hg : g = W.heap.size) : Bs (strLit W (u8s l).toArray) (fun b => b = W.heap.size) (.slice (some ⟨g, 0, none⟩) l.length l.length) l := by
  subst hg
  refine ⟨by simp [u8s_length], _, _, rfl, Nat.le_refl _, hl, fun _ => ⟨_, 0, rfl, rfl, fun j u hu => ?_⟩⟩
  rw [Nat.zero_add]
  unfold World.cell?
  rw [strLit_new]
  simpa using hu
end Go.Proofs.Ytljddghamgjfbaa
