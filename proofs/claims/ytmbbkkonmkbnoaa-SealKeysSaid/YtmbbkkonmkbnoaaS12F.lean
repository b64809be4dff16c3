/- SealSeal, SealFind, SealSealR, SealOpen, SealDer, SealTwo. -/
import Derived.Test.YtmbbkkonmkbnoaaS12E
import Derived.Test.YtmbbkkonmkbnoaaS12D
import Derived.Test.YtmbbkkonmkbnoaaS12A
set_option linter.unusedVariables false
set_option linter.unusedSimpArgs false
namespace Go.Proofs.Ytmbbkkonmkbnoaa
open Go.RowKit Go.Deep
theorem Slr.old {w : World} {g b : Nat} {F : Nat → Prop} {S : Sr} (h : Slr w g F S) (hb : w.heap.size ≤ b) : ¬ F b := fun hF => by have := h.lt hF; omega
/-- What a new text leaves in memory: five values in a block of the call's own. -/
structure SlA (w w5 : World) (b : Nat) (e : En) (kv nv bv tv sv : Value) : Prop where
  x : Ext No w w5
  lo : w.heap.size ≤ b
  blk : Blk w5 b 139 #[kv, nv, bv, tv, sv]
  en : EnV w5 e kv nv bv tv sv
section
variable {w w5 w6 w' : World} {g b : Nat} {F : Nat → Prop} {S S' : Sr} {e : En} {kv nv bv tv sv : Value}
/-- The sealer's own block is written. -/
theorem EnV.oneg (h : EnV w5 e kv nv bv tv sv) {cs : Array Value} {t : TypeId} (hg : Blk w5 g t cs) (ht : t ≠ 5) (hx : Ext (One g) w5 w6) : EnV w6 e kv nv bv tv sv := h.ext hx (fun b hb e => u8_ne hb hg ht e)
theorem By.oneg {v : Value} {l : List UInt8} (h : By w5 v l) {cs : Array Value} {t : TypeId} (hg : Blk w5 g t cs) (ht : t ≠ 5) (hx : Ext (One g) w5 w6) : By w6 v l := h.ext hx (fun b hb e => u8_ne hb hg ht e)
theorem Slr.blk (h : Slr w g F S) : ∃ cs, Blk w g 129 cs := by obtain ⟨pt, vb, vk, pm, get, h, _⟩ := h; exact ⟨_, h.blk⟩
theorem Slr.ideal (h : Slr w g F S) : w.cell? ⟨g, 0, none⟩ = some (.bool S.ideal) ∧ g < w.heap.size := by obtain ⟨pt, vb, vk, pm, get, h, _⟩ := h; exact ⟨h.blk.cell 0, h.blk.lt⟩
theorem Slr.tab (h : Slr w g F S) : ∃ pt, w.cell? ⟨g, 1, none⟩ = some (.pointer (some ⟨pt, 0, none⟩)) ∧ IsT w pt := by obtain ⟨pt, vb, vk, pm, get, h, _⟩ := h; exact ⟨pt, h.blk.cell 1, h.tab⟩
/-- A block of one entry that is not the sealer's is written. -/
theorem Slr.ent (h : Slr w g F S) {cs : Array Value} (hb : Blk w b 139 cs) (hn : ¬ F b) (hx : Ext (One b) w w') : Slr w' g F S :=
  h.ext hx (fun k hk e => hn (by have e : k = b := e; rw [← e]; exact hk)) (fun k hk e => u8_ne hk hb (by decide) e) (fun k c hk e => hk.ne_ hb (by decide) e)
end
set_option maxRecDepth 100000 in
set_option maxHeartbeats 2000000 in
theorem sSeal_i (g : Nat) (F : Nat → Prop) (S : Sr) (kv nv bv tv : Value) (key nonce beside text : List UInt8) (w : World) (h : Slr w g F S) (hi : S.ideal = true) (hk : Bs w Any kv key) (hn : Bs w Any nv nonce) (hb : Bs w Any bv beside) (ht : Bs w Any tv text)
    (hkl : key.length = 32) (hnl : nonce.length = 12) (hbl : beside.length ≤ 1000000) (htl : text.length ≤ 90000) (hbk : S.book.length ≤ 1000000) (hc : S.count ≤ 1000000) :
    Calls Try.prog 35 #[sp g, kv, nv, bv, tv] w fun x w' => ∃ r F', x = .returned (.tuple #[r, .int .i64 0]) ∧ Own w' w.heap.size r (noiseL (S.count + 1) (text.length + 16)) ∧
      Slr w' g F' (noted { S with count := S.count + 1 } ⟨key, nonce, beside, text, noiseL (S.count + 1) (text.length + 16)⟩) ∧ Ext F w w' ∧ ∀ b, F' b → F b ∨ w.heap.size ≤ b := by
  obtain ⟨kA, kc, rfl, -⟩ := hk.slice
  obtain ⟨nA, nc, rfl, -⟩ := hn.slice
  obtain ⟨bA, bc, rfl, -⟩ := hb.slice
  obtain ⟨tA, tc, rfl, -⟩ := ht.slice
  have HS := Lib.hid h
  have HI := Lib.hid hi
  have HK := Lib.hid hk
  have HN := Lib.hid hn
  have HB := Lib.hid hb
  have HT := Lib.hid ht
  obtain ⟨sz, hsz⟩ : ∃ n, text.length + 16 = n := ⟨_, rfl⟩
  obtain ⟨NO, hNO⟩ : ∃ l, noiseL (S.count + 1) sz = l := ⟨_, rfl⟩
  have hw : IntKind.i64.wrap ((text.length : Int) + 16) = (sz : Int) := by rw [IntKind.wrap_i64]; omega
  have hszl : (sz : Int) = (text.length : Int) + 16 := by omega
  have HNO := Lib.hid hNO
  have h8 : 8 ≤ sz := by omega
  have h9 : sz ≤ 100000 := by omega
  have HKL := Lib.hid (show [key].flatten.length ≤ 140737488351232 by simp; omega)
  have HNL := Lib.hid (show [nonce].flatten.length ≤ 140737488351232 by simp; omega)
  have HBL := Lib.hid (show [beside].flatten.length ≤ 140737488351232 by simp; omega)
  have HTL := Lib.hid (show [text].flatten.length ≤ 140737488351232 by simp; omega)
  have HKN := Lib.hid (show key.length + nonce.length ≤ 1000000 by omega)
  have HSZ := Lib.hid hszl
  have HC : Hid (S.count ≤ 1000000000) := Lib.hid (by omega)
  have HBK := Lib.hid hbk
  have HNOL : Hid ([NO].flatten.length ≤ 140737488351232) := Lib.hid (by have := noiseL_length (S.count + 1) sz h8; rw [hNO] at this; simp; omega)
  have HCK := Lib.hid (fun wx => sCheck_ok kA nA key.length nonce.length kc nc wx hkl hnl)
  rw [hsz, hNO]
  have hgl := h.lt h.at_
  clear h hi hk hn hb ht hsz hNO hkl hnl hszl
  go_enter Try.func35, Try.ntmps35
  go_wp2_with (first
    | (go_at_call 78; (with_reducible refine (HCK.out _).mono ?_); rintro e0 w0 ⟨rfl, rfl⟩)
    | (go_at_call 65; (with_reducible refine (oJoin_any Any _ [key] _ (by exact Parts.lit1 HK.out trivial (hg := rfl)) HKL.out).mono ?_); rintro e1 w1 ⟨A1, n1, c1, rfl, ho, hx⟩; have HX1 := Lib.hid (((Ext.refl No _).alloc _).trans hx); have HO1 : Hid (By w1 (.slice A1 n1 c1) key) := Lib.hid (by simpa using By.of_own ho); clear ho hx)
    | (go_at_call 65; (with_reducible refine (oJoin_any Any _ [nonce] _ (by exact Parts.lit1 (HN.out.ext_no HX1.out) trivial (hg := rfl)) HNL.out).mono ?_); rintro e2 w2 ⟨A2, n2, c2, rfl, ho, hx⟩; have hx' := ((Ext.refl No _).alloc _).trans hx; have HX2 := Lib.hid (HX1.out.trans hx'); have HO12 := Lib.hid (HO1.out.ext_no hx'); have HO2 : Hid (By w2 (.slice A2 n2 c2) nonce) := Lib.hid (by simpa using By.of_own ho); clear ho hx hx')
    | (go_at_call 65; (with_reducible refine (oJoin_any Any _ [beside] _ (by exact Parts.lit1 (HB.out.ext_no HX2.out) trivial (hg := rfl)) HBL.out).mono ?_); rintro e3 w3 ⟨A3, n3, c3, rfl, ho, hx⟩; have hx' := ((Ext.refl No _).alloc _).trans hx; have HX3 := Lib.hid (HX2.out.trans hx'); have HO13 := Lib.hid (HO12.out.ext_no hx'); have HO23 := Lib.hid (HO2.out.ext_no hx'); have HO3 : Hid (By w3 (.slice A3 n3 c3) beside) := Lib.hid (by simpa using By.of_own ho); clear ho hx hx')
    | (go_at_call 65; (with_reducible refine (oJoin_any Any _ [text] _ (by exact Parts.lit1 (HT.out.ext_no HX3.out) trivial (hg := rfl)) HTL.out).mono ?_); rintro e4 w4 ⟨A4, n4, c4, rfl, ho, hx⟩; have hx' := ((Ext.refl No _).alloc _).trans hx; have HX4 := Lib.hid (HX3.out.trans hx'); have HO14 := Lib.hid (HO13.out.ext_no hx'); have HO24 := Lib.hid (HO23.out.ext_no hx'); have HO34 := Lib.hid (HO3.out.ext_no hx'); have HO4 : Hid (By w4 (.slice A4 n4 c4) text) := Lib.hid (by simpa using By.of_own ho); clear ho hx hx')
    | ((with_reducible show wpList _ _ _ (⟨none, .store 139 (.tmp 13) (.tmp 34), _, _, _, _⟩ :: _) _ _); go_must ((change wpList _ _ _ _ _ (w4.alloc (.cells zen 139))); refine store_blk (cs' := ecs (.slice A1 n1 c1) (.slice A2 n2 c2) (.slice A3 n3 c3) (.slice A4 n4 c4) (.slice none 0 0)) 139 (.tmp 13) (.tmp 34) rfl rfl (Blk.new w4 139 zen) rfl rfl rfl size_entry (by intro v hv; simp only [ecs, List.mem_cons, List.not_mem_nil, or_false] at hv; rcases hv with rfl | rfl | rfl | rfl | rfl <;> rfl) ?_); intro w5 hb2 hx2; have hx5 : Ext No w4 w5 := (((Ext.refl No w4).alloc _).transS hx2 (fun i hi e => by have e : i = w4.heap.size := e; omega)); have HA : Hid (SlA w w5 w4.heap.size ⟨key, nonce, beside, text, []⟩ (.slice A1 n1 c1) (.slice A2 n2 c2) (.slice A3 n3 c3) (.slice A4 n4 c4) (.slice none 0 0)) := Lib.hid ⟨HX4.out.trans hx5, HX4.out.size, hb2, HO14.out.ext_no hx5, HO24.out.ext_no hx5, HO34.out.ext_no hx5, HO4.out.ext_no hx5, By.nil _⟩; have gi := (HS.out.ext_no HA.out.x).ideal; rw [HI.out] at gi; clear hb2 hx2 hx5)
    | (go_at_call 79; (with_reducible refine (sNoise_any g sz F S _ (HS.out.ext_no HA.out.x) HC.out h8 h9).mono ?_); rintro e6 w6 ⟨r6, rfl, ho, hs, hx⟩; rw [HNO.out] at ho; obtain ⟨A6, c6, rfl, -⟩ := ho.slice; have HO6 := Lib.hid (By.of_own ho); have HS6 := Lib.hid hs; have HX6 := Lib.hid hx; have HB6 := Lib.hid (HA.out.blk.ext hx (fun e => by have e : w4.heap.size = g := e; have := HA.out.lo; omega)); have HE6 := Lib.hid (HA.out.en.oneg (HS.out.ext_no HA.out.x).blk.choose_spec (by decide) hx); have s4 := Blk.frozen HB6.out 4; have s4c := Blk.cell HB6.out 4; have s4l := HB6.out.lt; clear ho hs hx)
    | ((with_reducible show wpList _ _ _ (⟨some 68, _, _, _, _, _⟩ :: _) _ _); go_must (have HB7 : Hid (Blk (w6.setCell ⟨w4.heap.size, 4, none⟩ (.slice A6 NO.length c6)) w4.heap.size 139 (ecs (.slice A1 n1 c1) (.slice A2 n2 c2) (.slice A3 n3 c3) (.slice A4 n4 c4) (.slice A6 NO.length c6))) := Lib.hid (Blk.set_ HB6.out 4 _)); have HX7 := Lib.hid (ext_set1 w6 w4.heap.size 4 (.slice A6 NO.length c6)); have HN7 : Hid (¬ F w4.heap.size) := Lib.hid (HS.out.old HA.out.lo); have HS7 := Lib.hid (HS6.out.ent HB6.out HN7.out HX7.out); have HE7 := Lib.hid (HE6.out.oneg HB6.out (by decide) HX7.out); have HO7 := Lib.hid (HO6.out.oneg HB6.out (by decide) HX7.out); go_must (refine load_blk 139 (.tmp 13) rfl rfl HB7.out rfl _ Try.underlying139 rfl size_entry ?_))
    | (go_at_call 82; (with_reducible refine (sNote_any g F { S with count := S.count + 1 } ⟨key, nonce, beside, text, NO⟩ _ _ _ _ _ _ HS7.out ⟨HE7.out.k, HE7.out.n, HE7.out.b, HE7.out.t, HO7.out⟩ HKN.out HBK.out).mono ?_); rintro e8 w8 ⟨rfl, F8, hs, hx, hF⟩; have HS8 := Lib.hid hs; have HX8 := Lib.hid hx; have HF8 := Lib.hid hF; have HB8 := Lib.hid (HB7.out.ext hx HN7.out); have HO8 : Hid (By w8 (.slice A6 NO.length c6) NO) := Lib.hid (HO7.out.ext hx (fun b hb => HS7.out.u8 hb)); have t4 := Blk.cell HB8.out 4; clear hs hx hF)
    | (go_at_call 65; (with_reducible refine (oJoin_any Any _ [NO] _ (by exact Parts.lit1 HO8.out.any trivial (hg := rfl)) HNOL.out).mono ?_); rintro e9 w9 ⟨A9, n9, c9, rfl, ho, hx⟩; have hx' := ((Ext.refl No _).alloc _).trans hx; have HX9 := Lib.hid hx'; have HO9 := Lib.hid ho; clear ho hx hx'))
  go_ret2
  have hsz5 := HA.out.x.size
  have hsz6 := HX6.out.size
  have hsz8 := HX8.out.size
  have hsz7 : (w6.setCell ⟨w4.heap.size, 4, none⟩ (.slice A6 NO.length c6)).heap.size = w6.heap.size := by simp [World.setCell]
  refine ⟨_, F8, rfl, ?_, HS8.out.ext_no HX9.out, ?_, fun b hb => ?_⟩
  · have h := HO9.out
    simp only [List.flatten_cons, List.flatten_nil, List.append_nil] at h
    exact h.less (by simp; omega)
  · exact ((((HA.out.x.no.transS HX6.out (fun i _ e => by have e : i = g := e; rw [e]; exact HS.out.at_)).transS HX7.out (fun i hi e => by have e : i = w4.heap.size := e; have := HA.out.lo; omega)).trans HX8.out)).then_ HX9.out
  · rcases HF8.out b hb with h | h
    · exact .inl h
    · exact .inr (by rw [hsz7] at h; omega)
end Go.Proofs.Ytmbbkkonmkbnoaa
namespace Go.Proofs.Ytmbbkkonmkbnoaa
open Go.RowKit Go.Deep
set_option maxHeartbeats 1000000 in
theorem sNew_any (i : Bool) (w : World) : Calls Try.prog 16 #[.bool i] w fun x w' => ∃ g F, x = .returned (sp g) ∧ Slr w' g F (Sr.new i) ∧ Ext No w w' ∧ ∀ b, F b → w.heap.size ≤ b := by
  have hmm := @run_makeMap Try.prog
  go_enter Try.func16, Try.ntmps16
  go_wp2_with (first
    | (go_at_call 62; (with_reducible refine (aBuild_any _).mono ?_); rintro e1 w1 ⟨pt, rfl, hp, ht, hx⟩; have HT := Lib.hid ht; have HX := Lib.hid hx; have HP := Lib.hid hp; clear ht hx hp))
  go_ret
  have hsz := HX.out.size
  have x1 : Ext No w1 (w1.alloc (.map #[] 0)) := (Ext.refl No w1).alloc _
  have hx2 := fun cs => (x1.alloc (.cells cs 129))
  refine ⟨_, foot (w1.heap.size + 1) w1.heap.size (.slice none 0 0) (.slice none 0 0) (fun _ => none), rfl, ⟨pt, .slice none 0 0, .slice none 0 0, w1.heap.size, fun _ => none, ⟨?_, ?_, ?_, ?_, ?_, fun k => .inl ⟨rfl, rfl⟩, fun _ _ _ _ _ h => by cases h⟩, rfl⟩, HX.out.trans (hx2 _), fun b hb => ?_⟩
  · have h := Blk.new (w1.alloc (.map #[] 0)) 129 #[.bool i, .pointer (some ⟨pt, 0, none⟩), .slice none 0 0, .map (some w1.heap.size), .slice none 0 0, .int .u64 0, .bool false, .bool false]
    rw [World.size_alloc] at h
    exact h
  · exact HT.out.ext_no (hx2 _)
  · exact Rw.nil _ _ _
  · exact Rw.nil _ _ _
  · exact (Mp.new w1 .string kstr).ext_no ((Ext.refl No _).alloc _)
  · rcases hb with rfl | rfl | hb | hb | ⟨k, v, hk, _⟩
    · omega
    · exact hsz
    · simp [Value.ownBlock] at hb
    · simp [Value.ownBlock] at hb
    · cases hk
def Ff (g pm : Nat) (at_ : List UInt8) (kv nv lv : Value) (n : Nat) : Nat → Value
  | 0 | 1 => sp g
  | 2 => .pointer (some ⟨g, 3, none⟩)
  | 3 => .map (some pm)
  | 4 => kv
  | 5 => nv
  | 6 => kstr at_
  | 7 => lv
  | 8 => .int .i64 (n : Int)
  | 9 => .int .i64 0
  | _ => undef
theorem find_take {E : List En} {p : En → Bool} {j : Nat} (hj : j < E.length) (h : (E.take j).any p = false) (hp : p E[j] = true) : E.find? p = some E[j] := by
  have h1 : (E.take j).find? p = none := by
    rw [List.find?_eq_none]
    intro x hx hpx
    rw [List.any_eq_false] at h
    exact h x hx hpx
  have h2 : E.drop j = E[j] :: E.drop (j + 1) := (List.getElem_cons_drop hj).symm
  have h3 : (E.drop j).find? p = some E[j] := by rw [h2, List.find?_cons_of_pos hp]
  have e : E.find? p = (E.take j ++ E.drop j).find? p := by rw [List.take_append_drop]
  rw [e, List.find?_append, h1, h3]
  rfl
set_option pp.deepTerms true in
set_option pp.maxSteps 1000000 in
set_option maxRecDepth 100000 in
set_option maxHeartbeats 4000000 in
theorem sFind_any (g : Nat) (F : Nat → Prop) (S : Sr) (kv nv bv sv : Value) (key nonce beside sealed : List UInt8) (w : World) (h : Slr w g F S) (hk : Bs w Any kv key) (hn : Bs w Any nv nonce) (hb : Bs w Any bv beside) (hs : Bs w Any sv sealed)
    (hkl : key.length + nonce.length ≤ 1000000) (hbk : S.book.length ≤ 1000000) (htx : ∀ e ∈ S.book, e.text.length ≤ 1000000) (res : Option (List UInt8)) (hres : knownE S.book key nonce beside sealed = res) :
    Calls Try.prog 83 #[sp g, kv, nv, bv, sv] w fun x w' => ∃ r, x = .returned (.tuple #[r, .bool res.isSome]) ∧ Own w' w.heap.size r (res.getD []) ∧ Ext No w w' := by
  obtain ⟨pt, vb, vk, pm, get, h, rfl⟩ := h
  obtain ⟨kA, kc, rfl, -⟩ := hk.slice
  obtain ⟨nA, nc, rfl, -⟩ := hn.slice
  obtain ⟨bA, bc, rfl, -⟩ := hb.slice
  obtain ⟨sA, sc, rfl, -⟩ := hs.slice
  obtain ⟨L, hL⟩ : ∃ L, placesL S.book (placeL key nonce) = L := ⟨_, rfl⟩
  obtain ⟨E, hE⟩ : ∃ E, placesE S.book (placeL key nonce) = E := ⟨_, rfl⟩
  obtain ⟨at_, hat⟩ : ∃ a, placeL key nonce = a := ⟨_, rfl⟩
  have HP := Lib.hid (places_at S.book (placeL key nonce))
  have HELN : Hid (L.length = E.length) := Lib.hid (by rw [← hL, ← hE]; exact places_len _ _)
  have HEM : Hid (∀ e ∈ E, e.text.length ≤ 1000000) := Lib.hid (fun e he => htx e (by rw [← hE] at he; exact (List.mem_filter.1 he).1))
  have HRES : Hid ((E.find? (hitE beside sealed)).map (·.text) = res) := Lib.hid (by rw [← hres, ← hE]; rfl)
  have hlook := h.look (placeL key nonce)
  have hle := places_le S.book (placeL key nonce)
  simp only [hL, hE] at HP
  rw [hL] at hlook hle
  rw [hat] at hlook hL hE
  have HAT := Lib.hid hat
  obtain ⟨lv, hlv⟩ : ∃ v, (get at_).getD (.slice none 0 0) = v := ⟨_, rfl⟩
  rw [hlv] at hlook
  obtain ⟨lA, lc, rfl, hlc⟩ := ownsRow_slice hlook
  obtain ⟨vbA, vbc, rfl, hvbc⟩ := h.book.slice
  have HLV := Lib.hid hlv
  have HLK := Lib.hid hlook
  have HL := Lib.hid hL
  have HK := Lib.hid hk
  have HN := Lib.hid hn
  have HB := Lib.hid hb
  have HSD := Lib.hid hs
  have HS := Lib.hid h
  have hgl := h.blk.lt
  have HC : Hid (∀ wx, Ext No w wx → wx.cell? ⟨g, 3, none⟩ = some (.map (some pm)) ∧ g < wx.heap.size) := Lib.hid (fun wx hx => ⟨(h.ext_no hx).blk.cell 3, (h.ext_no hx).blk.lt⟩)
  have hL6 : L.length ≤ 1000000 := by omega
  clear hL hE hat hlv hlook h hk hn hb hs htx hres
  go_enter Try.func83, Try.ntmps83
  go_wp2_with fail
  refine RF.region (vs := fun _ => undef) rfl (fun vs => ((sp g) :: (Value.slice kA key.length kc) :: (Value.slice nA nonce.length nc) :: (Value.slice bA beside.length bc) :: (Value.slice sA sealed.length sc) :: undef :: undef :: undef :: undef :: undef :: (Value.slice none 0 0) :: (Value.bool false) :: undef :: undef :: undef :: (vs 0) :: (vs 1) :: (vs 2) :: (vs 3) :: (vs 4) :: (vs 5) :: (vs 6) :: (vs 7) :: (vs 8) :: (vs 9) :: undef :: undef :: undef :: undef :: undef :: undef :: undef :: undef :: undef :: undef :: undef :: undef :: undef :: undef :: undef :: undef :: undef :: undef :: undef :: undef :: undef :: undef :: undef :: undef :: undef :: []).toArray)
    (fun j_ v _ => v = Ff g pm at_ (Value.slice kA key.length kc) (Value.slice nA nonce.length nc) (Value.slice lA L.length lc) L.length j_) (fun _ wz => Ext No w wz) rfl (by kernel_rfl) ?_ ?_ ?_
  · exact (Ext.refl No w).drew
  · refine ⟨⟨⟨⟨⟨⟨⟨⟨⟨⟨trivial, ?_⟩, ?_⟩, ?_⟩, ?_⟩, ?_⟩, ?_⟩, ?_⟩, ?_⟩, ?_⟩, ?_⟩
    · refine RF.Step.plain rfl rfl (fun vs wx hG hv hd K hK => ?_)
      have HG0 := Lib.hid hG
      clear hG
      go_simp
      have h4 := hK _ _ HG0.out rfl (fun _ _ h => h)
      first | exact h4 | (simpa only [RF.upd, Nat.reduceEqDiff, if_true, if_false, reduceIte] using h4) | (simp only [RF.upd, Nat.reduceEqDiff, if_true, if_false, reduceIte] at h4 ⊢; exact h4)
    · refine RF.Step.plain rfl rfl (fun vs wx hG hv hd K hK => ?_)
      have h0 : vs 0 = Value.pointer (some ⟨g, 0, none⟩) := by first | exact hd.1 | exact hd.2.1 | exact hd.2.2.1 | exact hd.2.2.2.1 | exact hd.2.2.2.2.1
      obtain ⟨c3, gl⟩ := HC.out wx hG
      have HG0 := Lib.hid hG
      clear hG
      go_simp
      have h4 := hK _ _ HG0.out rfl (fun _ _ h => h)
      first | exact h4 | (simpa only [RF.upd, h0, Nat.reduceEqDiff, if_true, if_false, reduceIte] using h4) | (simp only [RF.upd, h0, Nat.reduceEqDiff, if_true, if_false, reduceIte] at h4 ⊢; exact h4)
    · refine RF.Step.plain rfl rfl (fun vs wx hG hv hd K hK => ?_)
      have h0 : vs 1 = Value.pointer (some ⟨g, 0, none⟩) := by first | exact hd.1 | exact hd.2.1 | exact hd.2.2.1 | exact hd.2.2.2.1 | exact hd.2.2.2.2.1
      obtain ⟨c3, gl⟩ := HC.out wx hG
      have HG0 := Lib.hid hG
      clear hG
      go_simp
      have h4 := hK _ _ HG0.out rfl (fun _ _ h => h)
      first | exact h4 | (simpa only [RF.upd, h0, Nat.reduceEqDiff, if_true, if_false, reduceIte] using h4) | (simp only [RF.upd, h0, Nat.reduceEqDiff, if_true, if_false, reduceIte] at h4 ⊢; exact h4)
    · refine RF.Step.plain rfl rfl (fun vs wx hG hv hd K hK => ?_)
      have h0 : vs 2 = Value.pointer (some ⟨g, 3, none⟩) := by first | exact hd.1 | exact hd.2.1 | exact hd.2.2.1 | exact hd.2.2.2.1 | exact hd.2.2.2.2.1
      obtain ⟨c3, gl⟩ := HC.out wx hG
      have HG0 := Lib.hid hG
      clear hG
      go_simp
      have h4 := hK _ _ HG0.out rfl (fun _ _ h => h)
      first | exact h4 | (simpa only [RF.upd, h0, Nat.reduceEqDiff, if_true, if_false, reduceIte] using h4) | (simp only [RF.upd, h0, Nat.reduceEqDiff, if_true, if_false, reduceIte] at h4 ⊢; exact h4)
    · refine RF.Step.plain rfl rfl (fun vs wx hG hv hd K hK => ?_)
      have HG0 := Lib.hid hG
      clear hG
      go_simp
      have h4 := hK _ _ HG0.out rfl (fun _ _ h => h)
      first | exact h4 | (simpa only [RF.upd, Nat.reduceEqDiff, if_true, if_false, reduceIte] using h4) | (simp only [RF.upd, Nat.reduceEqDiff, if_true, if_false, reduceIte] at h4 ⊢; exact h4)
    · refine RF.Step.plain rfl rfl (fun vs wx hG hv hd K hK => ?_)
      have HG0 := Lib.hid hG
      clear hG
      go_simp
      have h4 := hK _ _ HG0.out rfl (fun _ _ h => h)
      first | exact h4 | (simpa only [RF.upd, Nat.reduceEqDiff, if_true, if_false, reduceIte] using h4) | (simp only [RF.upd, Nat.reduceEqDiff, if_true, if_false, reduceIte] at h4 ⊢; exact h4)
    · refine RF.Step.plain rfl rfl (fun vs wx hG hv hd K hK => ?_)
      have h4 : vs 4 = Value.slice kA key.length kc := by first | exact hd.1 | exact hd.2.1 | exact hd.2.2.1 | exact hd.2.2.2.1 | exact hd.2.2.2.2.1
      have h5 : vs 5 = Value.slice nA nonce.length nc := by first | exact hd.1 | exact hd.2.1 | exact hd.2.2.1 | exact hd.2.2.2.1 | exact hd.2.2.2.2.1
      go_simp
      refine (sPlace_any _ _ key nonce _ (HK.out.ext_no hG) (HN.out.ext_no hG) hkl).mono ?_
      rintro e_ w' ⟨rfl, hx⟩
      rw [HAT.out]
      have h4' := hK _ _ (Ext.trans hG hx) rfl (fun _ _ h => h)
      first | exact h4' | (simpa only [RF.upd, h4, h5, Nat.reduceEqDiff, if_true, if_false, reduceIte] using h4') | (simp only [RF.upd, h4, h5, Nat.reduceEqDiff, if_true, if_false, reduceIte] at h4' ⊢; exact h4')
    · refine RF.Step.plain rfl rfl (fun vs wx hG hv hd K hK => ?_)
      have h3 : vs 3 = Value.map (some pm) := by first | exact hd.1 | exact hd.2.1 | exact hd.2.2.1 | exact hd.2.2.2.1 | exact hd.2.2.2.2.1
      have h6 : vs 6 = kstr at_ := by first | exact hd.1 | exact hd.2.1 | exact hd.2.2.1 | exact hd.2.2.2.1 | exact hd.2.2.2.2.1
      refine wp_look (.tmp 18) (.tmp 21) rfl (HS.out.ext_no hG).mp kstr_inj kstr_key Try.underlying125 Try.underlying9 (zero_ints _) at_ (by show vs 3 = _; exact h3) (by show vs 6 = _; exact h6) ?_
      rw [HLV.out]
      exact hK _ _ hG rfl (fun _ _ h => h)
    · refine RF.Step.plain rfl rfl (fun vs wx hG hv hd K hK => ?_)
      have h0 : vs 7 = Value.slice lA L.length lc := by first | exact hd.1 | exact hd.2.1 | exact hd.2.2.1 | exact hd.2.2.2.1 | exact hd.2.2.2.2.1
      have HG0 := Lib.hid hG
      clear hG
      go_simp
      have h4 := hK _ _ HG0.out rfl (fun _ _ h => h)
      first | exact h4 | (simpa only [RF.upd, h0, Nat.reduceEqDiff, if_true, if_false, reduceIte] using h4) | (simp only [RF.upd, h0, Nat.reduceEqDiff, if_true, if_false, reduceIte] at h4 ⊢; exact h4)
    · refine RF.Step.plain rfl rfl (fun vs wx hG hv hd K hK => ?_)
      have HG0 := Lib.hid hG
      clear hG
      go_simp
      have h4 := hK _ _ HG0.out rfl (fun _ _ h => h)
      first | exact h4 | (simpa only [RF.upd, Nat.reduceEqDiff, if_true, if_false, reduceIte] using h4) | (simp only [RF.upd, Nat.reduceEqDiff, if_true, if_false, reduceIte] at h4 ⊢; exact h4)
  · intro vsA wA hG hF
    have e7 : vsA 7 = Value.slice lA L.length lc := hF 7 (by decide)
    have e8 : vsA 8 = Value.int .i64 (L.length : Int) := hF 8 (by decide)
    have e9 : vsA 9 = Value.int .i64 0 := hF 9 (by decide)
    have HXA := Lib.hid hG
    rw [e7, e8, e9]
    clear e7 e8 e9 hF hG
    go_wp2
    go_loopw [24] (fun iv wr => ∃ j : Nat, j ≤ L.length ∧ iv = .int .i64 j ∧ Hid ((E.take j).any (hitE beside sealed) = false) ∧ Hid (Ext No w wr)) (fun iv _ => L.length - (intOf iv).toNat)
    case atStart => exact ⟨0, by omega, rfl, Lib.hid rfl, HXA⟩
    case round =>
      obtain ⟨j, hj, rfl, HM, HX⟩ := hrel
      by_cases hlt : j < L.length
      · obtain ⟨hjE, hiB, hEq⟩ := HP.out j hlt
        obtain ⟨i, hi⟩ : ∃ i, L[j] = i := ⟨_, rfl⟩
        obtain ⟨o, ho⟩ : ∃ o, E[j] = o := ⟨_, rfl⟩
        have HTK : Hid (E.take (j + 1) = E.take j ++ [o]) := Lib.hid (by rw [← ho]; exact List.take_succ_eq_append_getElem hjE)
        have HFT : Hid (hitE beside sealed o = true → E.find? (hitE beside sealed) = some o) := Lib.hid (fun hp => by rw [← ho]; exact find_take hjE HM.out (by rw [ho]; exact hp))
        have HOT : Hid (o.text.length ≤ 1000000) := Lib.hid (by rw [← ho]; exact HEM.out _ (List.getElem_mem hjE))
        have HSr := Lib.hid (HS.out.ext_no HX.out)
        have hlk := HSr.out.look at_
        have hL2 : placesL S.book at_ = L := HL.out
        simp only [hL2, HLV.out] at hlk
        obtain ⟨gi, hgi, hci⟩ := row_cell hlk hlt
        rw [nints_get L j hlt, hi] at hci
        simp only [hi] at hiB hEq
        obtain ⟨gv, vc, hve, hgv, xk, xn, xb, xt, xs, hrg, hen⟩ := book_at HSr.out.book hiB
        injection hve with hv1 hv2 hv3
        subst hv1 hv3 hgi
        simp only [hEq, ho] at hen
        have c2 : wr.cell? ⟨g, 2, none⟩ = some (.slice (some ⟨gv, 0, none⟩) S.book.length vbc) := Blk.cell HSr.out.blk 2
        have i0 : (0 : Int) ≤ (i : Int) := by omega
        have i1 : (i : Int) < (S.book.length : Int) := by omega
        have j0 : (0 : Int) ≤ (j : Int) := by omega
        have j1 : (j : Int) < (L.length : Int) := by omega
        obtain ⟨xtA, xtc, rfl, -⟩ := hen.t.slice
        have HRG := Lib.hid hrg
        have HEN := Lib.hid hen
        have hgr := HSr.out.blk.lt
        clear hlk hL2 hrg hen hEq hi ho hv2 hjE hiB
        obtain ⟨pb, hpb⟩ : ∃ p, decide (o.beside = beside) = p := ⟨_, rfl⟩
        obtain ⟨ps, hps⟩ : ∃ p, decide (o.sealed = sealed) = p := ⟨_, rfl⟩
        have HPB := Lib.hid hpb
        have HPS := Lib.hid hps
        clear hpb hps
        cases pb with
        | false =>
          go_wp2_with (first
            | ((with_reducible show wpList _ _ _ (⟨some 34, _, _, _, _, _⟩ :: _) _ _); go_must (refine wpList_load_mid rfl 139 (.tmp 33) rfl gv (i * 5) rfl [xk, xn, xb, .slice xtA o.text.length xtc, xs] _ HRG.out Try.underlying139 rfl size_entry ?_))
            | ((with_reducible show wpList _ _ _ (⟨none, .store 139 (.tmp 14) (.tmp 34), _, _, _, _⟩ :: _) _ _); go_must ((change wpList _ _ _ _ _ (wr.alloc (.cells zen 139))); refine store_blk (cs' := ecs xk xn xb (.slice xtA o.text.length xtc) xs) 139 (.tmp 14) (.tmp 34) rfl rfl (Blk.new wr 139 zen) rfl rfl rfl size_entry HEN.out.one ?_); intro w2 hb2 hx2; have HW2 := Lib.hid hb2; have HX2 : Hid (Ext No wr w2) := Lib.hid (((Ext.refl No wr).alloc _).transS hx2 (fun i hi e => by have e : i = wr.heap.size := e; omega)); have r2 := Blk.cell hb2 2; clear hb2 hx2)
            | (go_at_call 39; (with_reducible refine (oSame_all _ _ o.beside beside _ (HEN.out.b.any.ext_no HX2.out) (HB.out.ext_no (HX.out.trans HX2.out)) _ HPB.out).mono ?_); rintro e3 w3 ⟨rfl, hx3⟩; have HX3 := Lib.hid (HX2.out.trans hx3); have HW3 := Lib.hid (HW2.out.ext_no hx3); have r4 := Blk.cell HW3.out 4; clear hx3))
          go_roundw
          case rel => exact ⟨j + 1, by omega, by go_num, Lib.hid (by rw [HTK.out, List.any_append, HM.out]; simp [hitE, HPB.out]), Lib.hid (HX.out.trans HX3.out)⟩
          case measure => simp [intOf]; omega
        | true =>
          cases ps with
          | false =>
            go_wp2_with (first
              | ((with_reducible show wpList _ _ _ (⟨some 34, _, _, _, _, _⟩ :: _) _ _); go_must (refine wpList_load_mid rfl 139 (.tmp 33) rfl gv (i * 5) rfl [xk, xn, xb, .slice xtA o.text.length xtc, xs] _ HRG.out Try.underlying139 rfl size_entry ?_))
              | ((with_reducible show wpList _ _ _ (⟨none, .store 139 (.tmp 14) (.tmp 34), _, _, _, _⟩ :: _) _ _); go_must ((change wpList _ _ _ _ _ (wr.alloc (.cells zen 139))); refine store_blk (cs' := ecs xk xn xb (.slice xtA o.text.length xtc) xs) 139 (.tmp 14) (.tmp 34) rfl rfl (Blk.new wr 139 zen) rfl rfl rfl size_entry HEN.out.one ?_); intro w2 hb2 hx2; have HW2 := Lib.hid hb2; have HX2 : Hid (Ext No wr w2) := Lib.hid (((Ext.refl No wr).alloc _).transS hx2 (fun i hi e => by have e : i = wr.heap.size := e; omega)); have r2 := Blk.cell hb2 2; clear hb2 hx2)
              | (go_at_call 39; (with_reducible refine (oSame_all _ _ o.beside beside _ (HEN.out.b.any.ext_no HX2.out) (HB.out.ext_no (HX.out.trans HX2.out)) _ HPB.out).mono ?_); rintro e3 w3 ⟨rfl, hx3⟩; have HX3 := Lib.hid (HX2.out.trans hx3); have HW3 := Lib.hid (HW2.out.ext_no hx3); have r4 := Blk.cell HW3.out 4; clear hx3)
              | (go_at_call 39; (with_reducible refine (oSame_all _ _ o.sealed sealed _ (HEN.out.s.any.ext_no HX3.out) (HSD.out.ext_no (HX.out.trans HX3.out)) _ HPS.out).mono ?_); rintro e4 w4 ⟨rfl, hx4⟩; have HX4 := Lib.hid (HX3.out.trans hx4); have HET := Lib.hid (HEN.out.t.ext_no HX4.out); have r3 := Blk.cell (HW3.out.ext_no hx4) 3; clear hx4))
            go_roundw
            case rel => exact ⟨j + 1, by omega, by go_num, Lib.hid (by rw [HTK.out, List.any_append, HM.out]; simp [hitE, HPS.out]), Lib.hid (HX.out.trans HX4.out)⟩
            case measure => simp [intOf]; omega
          | true =>
            go_wp2_with (first
              | ((with_reducible show wpList _ _ _ (⟨some 34, _, _, _, _, _⟩ :: _) _ _); go_must (refine wpList_load_mid rfl 139 (.tmp 33) rfl gv (i * 5) rfl [xk, xn, xb, .slice xtA o.text.length xtc, xs] _ HRG.out Try.underlying139 rfl size_entry ?_))
              | ((with_reducible show wpList _ _ _ (⟨none, .store 139 (.tmp 14) (.tmp 34), _, _, _, _⟩ :: _) _ _); go_must ((change wpList _ _ _ _ _ (wr.alloc (.cells zen 139))); refine store_blk (cs' := ecs xk xn xb (.slice xtA o.text.length xtc) xs) 139 (.tmp 14) (.tmp 34) rfl rfl (Blk.new wr 139 zen) rfl rfl rfl size_entry HEN.out.one ?_); intro w2 hb2 hx2; have HW2 := Lib.hid hb2; have HX2 : Hid (Ext No wr w2) := Lib.hid (((Ext.refl No wr).alloc _).transS hx2 (fun i hi e => by have e : i = wr.heap.size := e; omega)); have r2 := Blk.cell hb2 2; clear hb2 hx2)
              | (go_at_call 39; (with_reducible refine (oSame_all _ _ o.beside beside _ (HEN.out.b.any.ext_no HX2.out) (HB.out.ext_no (HX.out.trans HX2.out)) _ HPB.out).mono ?_); rintro e3 w3 ⟨rfl, hx3⟩; have HX3 := Lib.hid (HX2.out.trans hx3); have HW3 := Lib.hid (HW2.out.ext_no hx3); have r4 := Blk.cell HW3.out 4; clear hx3)
              | (go_at_call 39; (with_reducible refine (oSame_all _ _ o.sealed sealed _ (HEN.out.s.any.ext_no HX3.out) (HSD.out.ext_no (HX.out.trans HX3.out)) _ HPS.out).mono ?_); rintro e4 w4 ⟨rfl, hx4⟩; have HX4 := Lib.hid (HX3.out.trans hx4); have HET := Lib.hid (HEN.out.t.ext_no HX4.out); have r3 := Blk.cell (HW3.out.ext_no hx4) 3; clear hx4)
              | (go_at_call 65; (with_reducible refine (oJoin_any Any _ [o.text] _ (by exact Parts.lit1 HET.out.any trivial (hg := rfl)) (by have := HOT.out; simp; omega)).mono ?_); rintro e5 w5 ⟨A5, n5, c5, rfl, ho5, hx5⟩; have HX5 := Lib.hid (HX4.out.trans (((Ext.refl No _).alloc _).trans hx5)); have HO5 := Lib.hid ho5; clear ho5 hx5))
            have hr : some o.text = res := by rw [← HRES.out, HFT.out (by unfold hitE; rw [HPB.out, HPS.out]; rfl)]; rfl
            subst hr
            go_ret2
            refine ⟨_, rfl, ?_, HX.out.trans HX5.out⟩
            have h := HO5.out
            have z1 := HX.out.size
            have z2 := HX4.out.size
            simp only [List.flatten_cons, List.flatten_nil, List.append_nil] at h
            exact h.less (by simp; omega)
      · obtain rfl : j = L.length := by omega
        have hr : none = res := by
          rw [← HRES.out]
          have h : E.find? (hitE beside sealed) = none := by
            rw [List.find?_eq_none]
            have := HM.out
            rw [HELN.out, List.take_length, List.any_eq_false] at this
            exact this
          rw [h]; rfl
        subst hr
        go_wp2_with fail
        go_ret2
        exact ⟨_, rfl, Own.nil _ _, HX.out⟩
end Go.Proofs.Ytmbbkkonmkbnoaa
namespace Go.Proofs.Ytmbbkkonmkbnoaa
open Go.RowKit Go.Deep Ae Fm
theorem sealL_length (KK nonce : List UInt8) (h : G) (a b : List UInt8) (hk : KK.length = 240) : (sealL KK nonce h a b).length = b.length + 16 := by
  unfold sealL; rw [List.length_append, strm_length KK nonce b hk, tagL_length KK nonce h a (strm KK nonce b) hk]
set_option maxRecDepth 100000 in
set_option maxHeartbeats 2000000 in
theorem sSeal_r (g : Nat) (F : Nat → Prop) (S : Sr) (kv nv bv tv : Value) (key nonce beside text : List UInt8) (w : World) (h : Slr w g F S) (hi : S.ideal = false) (hk : Bs w Any kv key) (hn : Bs w Any nv nonce) (hb : Bs w Any bv beside) (ht : Bs w Any tv text)
    (hkl : key.length = 32) (hnl : nonce.length = 12) (hbl : beside.length ≤ 1000000) (htl : text.length ≤ 90000) (hbk : S.book.length ≤ 1000000) :
    Calls Try.prog 35 #[sp g, kv, nv, bv, tv] w fun x w' => ∃ r F', x = .returned (.tuple #[r, .int .i64 0]) ∧ Own w' w.heap.size r (sealL (kys key) nonce (hOf16 (kys key)) beside text) ∧
      Slr w' g F' (noted S ⟨key, nonce, beside, text, sealL (kys key) nonce (hOf16 (kys key)) beside text⟩) ∧ Ext F w w' ∧ ∀ b, F' b → F b ∨ w.heap.size ≤ b := by
  obtain ⟨kA, kc, rfl, -⟩ := hk.slice
  obtain ⟨nA, nc, rfl, -⟩ := hn.slice
  obtain ⟨bA, bc, rfl, -⟩ := hb.slice
  obtain ⟨tA, tc, rfl, -⟩ := ht.slice
  have HS := Lib.hid h
  have HI := Lib.hid hi
  have HK := Lib.hid hk
  have HN := Lib.hid hn
  have HB := Lib.hid hb
  have HT := Lib.hid ht
  obtain ⟨KK, hKK⟩ : ∃ l, kys key = l := ⟨_, rfl⟩
  obtain ⟨hh, hhh⟩ : ∃ l, hOf16 KK = l := ⟨_, rfl⟩
  have HGN : Hid (∀ (pt : Nat) (wx : World) (kv : Value), Bs wx Any kv key → IsT wx pt → Calls Try.prog 80 #[.pointer (some ⟨pt, 0, none⟩), kv] wx fun e w' => ∃ g gc gh, e = .returned (.tuple #[.pointer (some ⟨g, 0, none⟩), .int .i64 0]) ∧ wx.heap.size ≤ g ∧ IsG w' g gc pt gh KK hh ∧ Ext No wx w') := Lib.hid (fun pt wx kv h1 h2 => by have := gNew_any pt kv key wx h1 hkl h2; rw [hKK, hhh] at this; exact this)
  rw [hKK, hhh]
  obtain ⟨NO, hNO⟩ : ∃ l, sealL KK nonce hh beside text = l := ⟨_, rfl⟩
  have HNO := Lib.hid hNO
  have HNL12 := Lib.hid hnl
  have HBLE := Lib.hid (show beside.length ≤ 1000000 by omega)
  have HTLE := Lib.hid (show text.length ≤ 100000 by omega)
  have HNOL : Hid ([NO].flatten.length ≤ 140737488351232) := Lib.hid (by have h1 : KK.length = 240 := (by rw [← hKK]; exact kys_length key hkl); have := sealL_length KK nonce hh beside text h1; rw [hNO] at this; simp; omega)
  have HKL := Lib.hid (show [key].flatten.length ≤ 140737488351232 by simp; omega)
  have HNL := Lib.hid (show [nonce].flatten.length ≤ 140737488351232 by simp; omega)
  have HBL := Lib.hid (show [beside].flatten.length ≤ 140737488351232 by simp; omega)
  have HTL := Lib.hid (show [text].flatten.length ≤ 140737488351232 by simp; omega)
  have HKN := Lib.hid (show key.length + nonce.length ≤ 1000000 by omega)
  have HBK := Lib.hid hbk
  have HCK := Lib.hid (fun wx => sCheck_ok kA nA key.length nonce.length kc nc wx hkl hnl)
  rw [hNO]
  have hgl := h.lt h.at_
  clear h hi hk hn hb ht hNO hkl hnl hKK hhh
  go_enter Try.func35, Try.ntmps35
  go_wp2_with (first
    | (go_at_call 78; (with_reducible refine (HCK.out _).mono ?_); rintro e0 w0 ⟨rfl, rfl⟩)
    | (go_at_call 65; (with_reducible refine (oJoin_any Any _ [key] _ (by exact Parts.lit1 HK.out trivial (hg := rfl)) HKL.out).mono ?_); rintro e1 w1 ⟨A1, n1, c1, rfl, ho, hx⟩; have HX1 := Lib.hid (((Ext.refl No _).alloc _).trans hx); have HO1 : Hid (By w1 (.slice A1 n1 c1) key) := Lib.hid (by simpa using By.of_own ho); clear ho hx)
    | (go_at_call 65; (with_reducible refine (oJoin_any Any _ [nonce] _ (by exact Parts.lit1 (HN.out.ext_no HX1.out) trivial (hg := rfl)) HNL.out).mono ?_); rintro e2 w2 ⟨A2, n2, c2, rfl, ho, hx⟩; have hx' := ((Ext.refl No _).alloc _).trans hx; have HX2 := Lib.hid (HX1.out.trans hx'); have HO12 := Lib.hid (HO1.out.ext_no hx'); have HO2 : Hid (By w2 (.slice A2 n2 c2) nonce) := Lib.hid (by simpa using By.of_own ho); clear ho hx hx')
    | (go_at_call 65; (with_reducible refine (oJoin_any Any _ [beside] _ (by exact Parts.lit1 (HB.out.ext_no HX2.out) trivial (hg := rfl)) HBL.out).mono ?_); rintro e3 w3 ⟨A3, n3, c3, rfl, ho, hx⟩; have hx' := ((Ext.refl No _).alloc _).trans hx; have HX3 := Lib.hid (HX2.out.trans hx'); have HO13 := Lib.hid (HO12.out.ext_no hx'); have HO23 := Lib.hid (HO2.out.ext_no hx'); have HO3 : Hid (By w3 (.slice A3 n3 c3) beside) := Lib.hid (by simpa using By.of_own ho); clear ho hx hx')
    | (go_at_call 65; (with_reducible refine (oJoin_any Any _ [text] _ (by exact Parts.lit1 (HT.out.ext_no HX3.out) trivial (hg := rfl)) HTL.out).mono ?_); rintro e4 w4 ⟨A4, n4, c4, rfl, ho, hx⟩; have hx' := ((Ext.refl No _).alloc _).trans hx; have HX4 := Lib.hid (HX3.out.trans hx'); have HO14 := Lib.hid (HO13.out.ext_no hx'); have HO24 := Lib.hid (HO23.out.ext_no hx'); have HO34 := Lib.hid (HO3.out.ext_no hx'); have HO4 : Hid (By w4 (.slice A4 n4 c4) text) := Lib.hid (by simpa using By.of_own ho); clear ho hx hx')
    | ((with_reducible show wpList _ _ _ (⟨none, .store 139 (.tmp 13) (.tmp 34), _, _, _, _⟩ :: _) _ _); go_must ((change wpList _ _ _ _ _ (w4.alloc (.cells zen 139))); refine store_blk (cs' := ecs (.slice A1 n1 c1) (.slice A2 n2 c2) (.slice A3 n3 c3) (.slice A4 n4 c4) (.slice none 0 0)) 139 (.tmp 13) (.tmp 34) rfl rfl (Blk.new w4 139 zen) rfl rfl rfl size_entry (by intro v hv; simp only [ecs, List.mem_cons, List.not_mem_nil, or_false] at hv; rcases hv with rfl | rfl | rfl | rfl | rfl <;> rfl) ?_); intro w5 hb2 hx2; have hx5 : Ext No w4 w5 := (((Ext.refl No w4).alloc _).transS hx2 (fun i hi e => by have e : i = w4.heap.size := e; omega)); have HA : Hid (SlA w w5 w4.heap.size ⟨key, nonce, beside, text, []⟩ (.slice A1 n1 c1) (.slice A2 n2 c2) (.slice A3 n3 c3) (.slice A4 n4 c4) (.slice none 0 0)) := Lib.hid ⟨HX4.out.trans hx5, HX4.out.size, hb2, HO14.out.ext_no hx5, HO24.out.ext_no hx5, HO34.out.ext_no hx5, HO4.out.ext_no hx5, By.nil _⟩; have gi := (HS.out.ext_no HA.out.x).ideal; rw [HI.out] at gi; obtain ⟨pt, g1, hpt⟩ := (HS.out.ext_no HA.out.x).tab; have HPT := Lib.hid hpt; clear hpt; clear hb2 hx2 hx5)
    | (go_at_call 80; (with_reducible refine (HGN.out pt _ _ (HK.out.ext_no HA.out.x) HPT.out).mono ?_); rintro ea wa ⟨gg, gc, gh, rfl, hgg, hG, hx⟩; have HGG := Lib.hid hG; have HXa := Lib.hid hx; clear hgg hG hx)
    | (go_at_call 81; (with_reducible refine (gSeal_any gg gc pt gh KK hh _ _ _ nonce beside text _ HGG.out (HN.out.ext_no (HA.out.x.trans HXa.out)) HNL12.out (HB.out.ext_no (HA.out.x.trans HXa.out)) HBLE.out (HT.out.ext_no (HA.out.x.trans HXa.out)) HTLE.out).mono ?_); rintro e6 w6 ⟨r6, rfl, ho, hx⟩; rw [HNO.out] at ho; obtain ⟨A6, c6, rfl, -⟩ := ho.slice; have HO6 := Lib.hid (By.of_own ho); have HX6 := Lib.hid (HXa.out.trans hx); have HS6 := Lib.hid (HS.out.ext_no (HA.out.x.trans HX6.out)); have HB6 := Lib.hid (HA.out.blk.ext_no HX6.out); have HE6 := Lib.hid (HA.out.en.ext_no HX6.out); have s4 := Blk.frozen HB6.out 4; have s4c := Blk.cell HB6.out 4; have s4l := HB6.out.lt; clear ho hx)
    | ((with_reducible show wpList _ _ _ (⟨some 68, _, _, _, _, _⟩ :: _) _ _); go_must (have HB7 : Hid (Blk (w6.setCell ⟨w4.heap.size, 4, none⟩ (.slice A6 NO.length c6)) w4.heap.size 139 (ecs (.slice A1 n1 c1) (.slice A2 n2 c2) (.slice A3 n3 c3) (.slice A4 n4 c4) (.slice A6 NO.length c6))) := Lib.hid (Blk.set_ HB6.out 4 _)); have HX7 := Lib.hid (ext_set1 w6 w4.heap.size 4 (.slice A6 NO.length c6)); have HN7 : Hid (¬ F w4.heap.size) := Lib.hid (HS.out.old HA.out.lo); have HS7 := Lib.hid (HS6.out.ent HB6.out HN7.out HX7.out); have HE7 := Lib.hid (HE6.out.oneg HB6.out (by decide) HX7.out); have HO7 := Lib.hid (HO6.out.oneg HB6.out (by decide) HX7.out); go_must (refine load_blk 139 (.tmp 13) rfl rfl HB7.out rfl _ Try.underlying139 rfl size_entry ?_))
    | (go_at_call 82; (with_reducible refine (sNote_any g F S ⟨key, nonce, beside, text, NO⟩ _ _ _ _ _ _ HS7.out ⟨HE7.out.k, HE7.out.n, HE7.out.b, HE7.out.t, HO7.out⟩ HKN.out HBK.out).mono ?_); rintro e8 w8 ⟨rfl, F8, hs, hx, hF⟩; have HS8 := Lib.hid hs; have HX8 := Lib.hid hx; have HF8 := Lib.hid hF; have HB8 := Lib.hid (HB7.out.ext hx HN7.out); have HO8 : Hid (By w8 (.slice A6 NO.length c6) NO) := Lib.hid (HO7.out.ext hx (fun b hb => HS7.out.u8 hb)); have t4 := Blk.cell HB8.out 4; clear hs hx hF)
    | (go_at_call 65; (with_reducible refine (oJoin_any Any _ [NO] _ (by exact Parts.lit1 HO8.out.any trivial (hg := rfl)) HNOL.out).mono ?_); rintro e9 w9 ⟨A9, n9, c9, rfl, ho, hx⟩; have hx' := ((Ext.refl No _).alloc _).trans hx; have HX9 := Lib.hid hx'; have HO9 := Lib.hid ho; clear ho hx hx'))
  go_ret2
  have hsz5 := HA.out.x.size
  have hsz6 := HX6.out.size
  have hsz8 := HX8.out.size
  have hsz7 : (w6.setCell ⟨w4.heap.size, 4, none⟩ (.slice A6 NO.length c6)).heap.size = w6.heap.size := by simp [World.setCell]
  refine ⟨_, F8, rfl, ?_, HS8.out.ext_no HX9.out, ?_, fun b hb => ?_⟩
  · have h := HO9.out
    simp only [List.flatten_cons, List.flatten_nil, List.append_nil] at h
    exact h.less (by simp; omega)
  · exact ((((HA.out.x.trans HX6.out).no.transS HX7.out (fun i hi e => by have e : i = w4.heap.size := e; have := HA.out.lo; omega)).trans HX8.out)).then_ HX9.out
  · rcases HF8.out b hb with h | h
    · exact .inl h
    · exact .inr (by rw [hsz7] at h; omega)
end Go.Proofs.Ytmbbkkonmkbnoaa
namespace Go.Proofs.Ytmbbkkonmkbnoaa
open Go.RowKit Go.Deep Ae Fm
section
variable {w : World} {g : Nat} {F : Nat → Prop} {S : Sr}
theorem sIdeal_any (h : Slr w g F S) : Calls Try.prog 73 #[sp g] w fun e w' => e = .returned (.bool S.ideal) ∧ w = w' := by
  obtain ⟨pt, vb, vk, pm, get, h, rfl⟩ := h
  have c := Blk.cell h.blk 0
  clear h
  go_enter Try.func73, Try.ntmps73
  go_wp2
  go_ret
  exact ⟨rfl, rfl⟩
theorem sReused_any (h : Slr w g F S) : Calls Try.prog 74 #[sp g] w fun e w' => e = .returned (.bool S.reused) ∧ w = w' := by
  obtain ⟨pt, vb, vk, pm, get, h, rfl⟩ := h
  have c := Blk.cell h.blk 6
  clear h
  go_enter Try.func74, Try.ntmps74
  go_wp2
  go_ret
  exact ⟨rfl, rfl⟩
theorem sForged_any (h : Slr w g F S) : Calls Try.prog 75 #[sp g] w fun e w' => e = .returned (.bool S.forged) ∧ w = w' := by
  obtain ⟨pt, vb, vk, pm, get, h, rfl⟩ := h
  have c := Blk.cell h.blk 7
  clear h
  go_enter Try.func75, Try.ntmps75
  go_wp2
  go_ret
  exact ⟨rfl, rfl⟩
theorem sSealed_any (h : Slr w g F S) : Calls Try.prog 76 #[sp g] w fun e w' => e = .returned (.int .i64 (S.book.length : Int)) ∧ w = w' := by
  obtain ⟨pt, vb, vk, pm, get, h, rfl⟩ := h
  obtain ⟨vbA, vbc, rfl, -⟩ := h.book.slice
  have c := Blk.cell h.blk 2
  clear h
  go_enter Try.func76, Try.ntmps76
  go_wp2
  go_ret
  exact ⟨rfl, rfl⟩
end
set_option maxRecDepth 100000 in
set_option maxHeartbeats 2000000 in
theorem sOpen_i (g : Nat) (F : Nat → Prop) (S : Sr) (kv nv bv sv : Value) (key nonce beside sealed : List UInt8) (w : World) (h : Slr w g F S) (hi : S.ideal = true) (hk : Bs w Any kv key) (hn : Bs w Any nv nonce) (hb : Bs w Any bv beside) (hs : Bs w Any sv sealed)
    (hkl : key.length = 32) (hnl : nonce.length = 12) (hbk : S.book.length ≤ 1000000) (htx : ∀ e ∈ S.book, e.text.length ≤ 1000000) (res : Option (List UInt8)) (hres : knownE S.book key nonce beside sealed = res) :
    Calls Try.prog 37 #[sp g, kv, nv, bv, sv] w fun x w' => ∃ r, x = .returned (.tuple #[r, .int .i64 (if res.isSome then 0 else 6)]) ∧ Own w' w.heap.size r (res.getD []) ∧ Ext No w w' := by
  obtain ⟨kA, kc, rfl, -⟩ := hk.slice
  obtain ⟨nA, nc, rfl, -⟩ := hn.slice
  obtain ⟨bA, bc, rfl, -⟩ := hb.slice
  obtain ⟨sA, sc, rfl, -⟩ := hs.slice
  have HF := Lib.hid (sFind_any g F S _ _ _ _ key nonce beside sealed w h hk hn hb hs (by omega) hbk htx res hres)
  have HCK := Lib.hid (fun wx => sCheck_ok kA nA key.length nonce.length kc nc wx hkl hnl)
  have HGI : Hid (∀ wx, Ext No w wx → wx.cell? ⟨g, 0, none⟩ = some (.bool true) ∧ g < wx.heap.size) := Lib.hid (fun wx hx => by have := (h.ext_no hx).ideal; rwa [hi] at this)
  clear h hi hk hn hb hs hkl hnl htx hres
  cases res with
  | none =>
    go_enter Try.func37, Try.ntmps37
    go_wp2_with (first
      | (go_at_call 78; (with_reducible refine (HCK.out _).mono ?_); rintro e0 w0 ⟨rfl, rfl⟩)
      | (go_at_call 83; (with_reducible refine HF.out.mono ?_); rintro e1 w1 ⟨r1, rfl, ho, hx⟩; obtain ⟨gi, gl⟩ := HGI.out _ hx; have HX := Lib.hid hx; clear ho hx))
    go_ret2
    exact ⟨_, rfl, Own.nil _ _, HX.out⟩
  | some t =>
    go_enter Try.func37, Try.ntmps37
    go_wp2_with (first
      | (go_at_call 78; (with_reducible refine (HCK.out _).mono ?_); rintro e0 w0 ⟨rfl, rfl⟩)
      | (go_at_call 83; (with_reducible refine HF.out.mono ?_); rintro e1 w1 ⟨r1, rfl, ho, hx⟩; obtain ⟨gi, gl⟩ := HGI.out _ hx; have HX := Lib.hid hx; have HO := Lib.hid ho; clear ho hx))
    go_ret2
    exact ⟨_, rfl, HO.out, HX.out⟩
theorem Slr.forge {w : World} {g : Nat} {F : Nat → Prop} {S : Sr} (h : Slr w g F S) : Slr (w.setCell ⟨g, 7, none⟩ (.bool true)) g F { S with forged := true } := by
  obtain ⟨pt, vb, vk, pm, get, h, rfl⟩ := h
  exact ⟨pt, vb, vk, pm, get, h.upd (ext_set1 w g 7 _) (Blk.set_ h.blk 7 _) rfl rfl, rfl⟩
set_option maxRecDepth 100000 in
set_option maxHeartbeats 4000000 in
theorem sOpen_r (g : Nat) (F : Nat → Prop) (S : Sr) (kv nv bv sv : Value) (key nonce beside sealed : List UInt8) (w : World) (h : Slr w g F S) (hi : S.ideal = false) (hk : Bs w Any kv key) (hn : Bs w Any nv nonce) (hb : Bs w Any bv beside) (hs : Bs w Any sv sealed)
    (hkl : key.length = 32) (hnl : nonce.length = 12) (hbl : beside.length ≤ 1000000) (h16 : 16 ≤ sealed.length) (hsl : sealed.length ≤ 100000) (hbk : S.book.length ≤ 1000000) (htx : ∀ e ∈ S.book, e.text.length ≤ 1000000) (res : Option (List UInt8)) (hres : knownE S.book key nonce beside sealed = res)
    (q : Bool) (hq : decide (tagL (kys key) nonce (hOf16 (kys key)) beside (sealed.take (sealed.length - 16)) = sealed.drop (sealed.length - 16)) = q) :
    Calls Try.prog 37 #[sp g, kv, nv, bv, sv] w fun x w' => ∃ r, x = .returned (.tuple #[r, .int .i64 (if q then 0 else 6)]) ∧ Own w' w.heap.size r (if q then strm (kys key) nonce (sealed.take (sealed.length - 16)) else []) ∧ Slr w' g F { S with forged := S.forged || (q && !res.isSome) } ∧ Ext (One g) w w' := by
  obtain ⟨kA, kc, rfl, -⟩ := hk.slice
  obtain ⟨nA, nc, rfl, -⟩ := hn.slice
  obtain ⟨bA, bc, rfl, -⟩ := hb.slice
  obtain ⟨sA, sc, rfl, -⟩ := hs.slice
  have HF := Lib.hid (sFind_any g F S _ _ _ _ key nonce beside sealed w h hk hn hb hs (by omega) hbk htx res hres)
  have HCK := Lib.hid (fun wx => sCheck_ok kA nA key.length nonce.length kc nc wx hkl hnl)
  have HGI : Hid (∀ wx, Ext No w wx → wx.cell? ⟨g, 0, none⟩ = some (.bool false) ∧ g < wx.heap.size) := Lib.hid (fun wx hx => by have := (h.ext_no hx).ideal; rwa [hi] at this)
  have HS := Lib.hid h
  have HK := Lib.hid hk
  have HN := Lib.hid hn
  have HB := Lib.hid hb
  have HSD := Lib.hid hs
  obtain ⟨KK, hKK⟩ : ∃ l, kys key = l := ⟨_, rfl⟩
  obtain ⟨hh, hhh⟩ : ∃ l, hOf16 KK = l := ⟨_, rfl⟩
  have HGN : Hid (∀ (pt : Nat) (wx : World) (kv : Value), Bs wx Any kv key → IsT wx pt → Calls Try.prog 80 #[.pointer (some ⟨pt, 0, none⟩), kv] wx fun e w' => ∃ g gc gh, e = .returned (.tuple #[.pointer (some ⟨g, 0, none⟩), .int .i64 0]) ∧ wx.heap.size ≤ g ∧ IsG w' g gc pt gh KK hh ∧ Ext No wx w') := Lib.hid (fun pt wx kv h1 h2 => by have := gNew_any pt kv key wx h1 hkl h2; rw [hKK, hhh] at this; exact this)
  rw [hKK, hhh] at hq
  rw [hKK]
  obtain ⟨OUT, hOUT⟩ : ∃ l, strm KK nonce (sealed.take (sealed.length - 16)) = l := ⟨_, rfl⟩
  have HGO : Hid (∀ (gg gc pt gh : Nat) (wx : World) (nv av sv : Value), IsG wx gg gc pt gh KK hh → Bs wx Any nv nonce → Bs wx Any av beside → Bs wx Any sv sealed → Calls Try.prog 84 #[.pointer (some ⟨gg, 0, none⟩), nv, av, sv] wx fun e w' => ∃ v', e = .returned (.tuple #[v', .int .i64 (if q then 0 else 6)]) ∧ Own w' wx.heap.size v' (if q then OUT else []) ∧ Ext No wx w') := Lib.hid (fun gg gc pt gh wx nv av sv h1 h2 h3 h4 => by have := gOpen_any gg gc pt gh KK hh nv av sv nonce beside sealed wx h1 h2 hnl h3 hbl h4 hsl h16 q hq; rw [hOUT] at this; exact this)
  rw [hOUT]
  have h16' : ¬ (sealed.length : Int) < 16 := by omega
  clear h hi hk hn hb hs hkl hnl htx hres hq hKK hhh hOUT
  cases q with
  | false =>
    have e0 : ({ S with forged := S.forged || (false && !res.isSome) } : Sr) = S := by simp
    rw [e0]
    clear e0
    obtain ⟨pp, hpp⟩ : ∃ p, res.isSome = p := ⟨_, rfl⟩
    rw [hpp] at HF
    clear hpp
    go_enter Try.func37, Try.ntmps37
    go_wp2_with (first
      | (go_at_call 78; (with_reducible refine (HCK.out _).mono ?_); rintro e0 w0 ⟨rfl, rfl⟩)
      | (go_at_call 83; (with_reducible refine HF.out.mono ?_); rintro e1 w1 ⟨r1, rfl, ho, hx⟩; obtain ⟨gi, gl⟩ := HGI.out _ hx; obtain ⟨pt, g1, hpt⟩ := (HS.out.ext_no hx).tab; have HPT := Lib.hid hpt; have HX := Lib.hid hx; clear ho hx hpt)
      | (go_at_call 80; (with_reducible refine (HGN.out pt _ _ (HK.out.ext_no HX.out) HPT.out).mono ?_); rintro ea wa ⟨gg, gc, gh, rfl, hgg, hG, hx⟩; have HGG := Lib.hid hG; have HXa := Lib.hid (HX.out.trans hx); clear hgg hG hx)
      | (go_at_call 84; (with_reducible refine (HGO.out gg gc pt gh _ _ _ _ HGG.out (HN.out.ext_no HXa.out) (HB.out.ext_no HXa.out) (HSD.out.ext_no HXa.out)).mono ?_); rintro eb wb ⟨r6, rfl, ho, hx⟩; have HXb := Lib.hid (HXa.out.trans hx); clear ho hx))
    go_ret2
    exact ⟨_, rfl, Own.nil _ _, HS.out.ext_no HXb.out, HXb.out.no⟩
  | true =>
    cases res with
    | none =>
      go_enter Try.func37, Try.ntmps37
      go_wp2_with (first
        | (go_at_call 78; (with_reducible refine (HCK.out _).mono ?_); rintro e0 w0 ⟨rfl, rfl⟩)
        | (go_at_call 83; (with_reducible refine HF.out.mono ?_); rintro e1 w1 ⟨r1, rfl, ho, hx⟩; obtain ⟨gi, gl⟩ := HGI.out _ hx; obtain ⟨pt, g1, hpt⟩ := (HS.out.ext_no hx).tab; have HPT := Lib.hid hpt; have HX := Lib.hid hx; clear ho hx hpt)
        | (go_at_call 80; (with_reducible refine (HGN.out pt _ _ (HK.out.ext_no HX.out) HPT.out).mono ?_); rintro ea wa ⟨gg, gc, gh, rfl, hgg, hG, hx⟩; have HGG := Lib.hid hG; have HXa := Lib.hid (HX.out.trans hx); clear hgg hG hx)
        | (go_at_call 84; (with_reducible refine (HGO.out gg gc pt gh _ _ _ _ HGG.out (HN.out.ext_no HXa.out) (HB.out.ext_no HXa.out) (HSD.out.ext_no HXa.out)).mono ?_); rintro eb wb ⟨r6, rfl, ho, hx⟩; have HXb := Lib.hid (HXa.out.trans hx); have HO := Lib.hid (ho.less (HXa.out.size)); have h7 := HS.out.ext_no HXb.out; have HSb := Lib.hid h7; obtain ⟨pt7, vb7, vk7, pm7, get7, h7, -⟩ := h7; have f7 := Blk.cell h7.blk 7; have f7f := Blk.frozen h7.blk 7; have f7l := h7.blk.lt; clear ho hx h7))
      go_ret2
      refine ⟨_, rfl, Own.ext HO.out (ext_set1 wb g 7 _) (fun b hb e => ?_), ?_, HXb.out.no.trans (ext_set1 wb g 7 _)⟩
      · have h1 := HO.out.lt b hb
        have h2 := HS.out.lt HS.out.at_
        have e : b = g := e
        omega
      · have h := HSb.out.forge
        exact h
    | some t =>
      have e0 : ({ S with forged := S.forged || (true && !(some t).isSome) } : Sr) = S := by simp
      rw [e0]
      clear e0
      go_enter Try.func37, Try.ntmps37
      go_wp2_with (first
        | (go_at_call 78; (with_reducible refine (HCK.out _).mono ?_); rintro e0 w0 ⟨rfl, rfl⟩)
        | (go_at_call 83; (with_reducible refine HF.out.mono ?_); rintro e1 w1 ⟨r1, rfl, ho, hx⟩; obtain ⟨gi, gl⟩ := HGI.out _ hx; obtain ⟨pt, g1, hpt⟩ := (HS.out.ext_no hx).tab; have HPT := Lib.hid hpt; have HX := Lib.hid hx; clear ho hx hpt)
        | (go_at_call 80; (with_reducible refine (HGN.out pt _ _ (HK.out.ext_no HX.out) HPT.out).mono ?_); rintro ea wa ⟨gg, gc, gh, rfl, hgg, hG, hx⟩; have HGG := Lib.hid hG; have HXa := Lib.hid (HX.out.trans hx); clear hgg hG hx)
        | (go_at_call 84; (with_reducible refine (HGO.out gg gc pt gh _ _ _ _ HGG.out (HN.out.ext_no HXa.out) (HB.out.ext_no HXa.out) (HSD.out.ext_no HXa.out)).mono ?_); rintro eb wb ⟨r6, rfl, ho, hx⟩; have HXb := Lib.hid (HXa.out.trans hx); have HO := Lib.hid (ho.less (HXa.out.size)); clear ho hx))
      go_ret2
      exact ⟨_, rfl, HO.out, HS.out.ext_no HXb.out, HXb.out.no⟩
end Go.Proofs.Ytmbbkkonmkbnoaa
namespace Go.Proofs.Ytmbbkkonmkbnoaa
open Go.RowKit Go.Deep
theorem info_child : (Try.prog.info? 148).map (fun i => (i.zero, i.size, i.bytes)) = some (some (.agg #[.slice none 0 0, .slice none 0 0, .slice none 0 0]), 3, 72) := by kernel_rfl
theorem size_child : (Try.prog.info? 148).map (·.size) = some 3 := by kernel_rfl
abbrev zch : Array Value := #[.slice none 0 0, .slice none 0 0, .slice none 0 0]
structure ChV (w : World) (c : Ch) (fv wv kv : Value) : Prop where
  f : By w fv c.from_
  t : By w wv c.what
  k : By w kv c.key
theorem ChV.ext {T : Nat → Prop} {w w' : World} {c : Ch} {fv wv kv : Value} (h : ChV w c fv wv kv) (he : Ext T w w') (hd : ∀ b, U8 w b → ¬ T b) : ChV w' c fv wv kv := ⟨h.f.ext he hd, h.t.ext he hd, h.k.ext he hd⟩
theorem ChV.one {w : World} {c : Ch} {fv wv kv : Value} (h : ChV w c fv wv kv) : ∀ v ∈ [fv, wv, kv], v.oneCell' = true := by
  intro v hv
  simp only [List.mem_cons, List.not_mem_nil, or_false] at hv
  rcases hv with rfl | rfl | rfl
  · exact h.f.one
  · exact h.t.one
  · exact h.k.one
theorem list3 {l : List Value} (h : l.length = 3) : ∃ a b c, l = [a, b, c] := by
  match l, h with
  | [a, b, c], _ => exact ⟨a, b, c, rfl⟩
theorem kid_at {w : World} {vb : Value} {l : List Ch} (h : Rw w 148 3 vb l.length (l.flatMap Ch.row)) {i : Nat} (hi : i < l.length) :
    ∃ g c, vb = .slice (some ⟨g, 0, none⟩) l.length c ∧ g < w.heap.size ∧ ∃ fv wv kv, w.rangeAt g (i * 3) [fv, wv, kv] ∧ ChV w l[i] fv wv kv := by
  obtain ⟨g, c, e, _, hg, cs, hl, hr, hb⟩ := h.at hi (by omega)
  obtain ⟨fv, wv, kv, rfl⟩ := list3 hl
  have one : ∀ (j : Nat) (u : Value), [fv, wv, kv][j]? = some u → ∃ m, (Ch.row l[i])[j]? = some m ∧ By w u m := fun j u hu => by
    obtain ⟨m, h1, h2⟩ := hb j u hu
    rw [rows_get Ch.row 3 (fun _ => rfl) l i j hi (by have := (List.getElem?_eq_some_iff.1 hu).1; simpa using this)] at h1
    exact ⟨m, h1, h2⟩
  refine ⟨g, c, e, hg, fv, wv, kv, hr, ?_, ?_, ?_⟩
  · obtain ⟨m, h1, h2⟩ := one 0 fv rfl; cases h1; exact h2
  · obtain ⟨m, h1, h2⟩ := one 1 wv rfl; cases h1; exact h2
  · obtain ⟨m, h1, h2⟩ := one 2 kv rfl; cases h1; exact h2
def hitC (from_ what : List UInt8) (c : Ch) : Bool := decide (c.from_ = from_) && decide (c.what = what)
/-- A key that is made of another one. -/
def kidKey (S : Sr) (from_ what : List UInt8) : List UInt8 := match S.kids.find? (hitC from_ what) with | some c => c.key | none => noiseL (S.count + 1) 32
def kidSr (S : Sr) (from_ what : List UInt8) : Sr := match S.kids.find? (hitC from_ what) with | some _ => S | none => { S with count := S.count + 1, kids := S.kids ++ [⟨from_, what, noiseL (S.count + 1) 32⟩] }
theorem findC_take {E : List Ch} {p : Ch → Bool} {j : Nat} (hj : j < E.length) (h : (E.take j).any p = false) (hp : p E[j] = true) : E.find? p = some E[j] := by
  have h1 : (E.take j).find? p = none := by
    rw [List.find?_eq_none]
    intro x hx hpx
    rw [List.any_eq_false] at h
    exact h x hx hpx
  have h2 : E.drop j = E[j] :: E.drop (j + 1) := (List.getElem_cons_drop hj).symm
  have h3 : (E.drop j).find? p = some E[j] := by rw [h2, List.find?_cons_of_pos hp]
  have e : E.find? p = (E.take j ++ E.drop j).find? p := by rw [List.take_append_drop]
  rw [e, List.find?_append, h1, h3]
  rfl
/-- All parts together: a new child stands in the row. -/
theorem kid_done {w wA wB : World} {g pt pm : Nat} {vb vk v7 : Value} {get : List UInt8 → Option Value} {S S1 : Sr} {c : Ch} {fv wv kv : Value} {XS : List Value}
    (h0 : SlrAt w g pt vb vk pm get S) (hxA : Ext (One g) w wA) (h : SlrAt wA g pt vb vk pm get S1) (e1 : S1.kids = S.kids)
    (xB : Ext (TA g vk) wA wB) (gB : Blk wB g 129 #[.bool S1.ideal, .pointer (some ⟨pt, 0, none⟩), vb, .map (some pm), v7, .int .u64 (S1.count : Int), .bool S1.reused, .bool S1.forged])
    (hXl : XS.length = (S1.kids.flatMap Ch.row).length) (hXb : ∀ (i : Nat) (u : Value), XS[i]? = some u → ∃ l, (S1.kids.flatMap Ch.row)[i]? = some l ∧ By wA u l) (hrb : wA.ownsRow 0 148 3 vk S1.kids.length XS)
    (pB : FP 148 3 vk S1.kids.length XS [fv, wv, kv] wA v7 wB) (he : ChV wA c fv wv kv) :
    ∃ F', Slr wB g F' { S1 with kids := S1.kids ++ [c] } ∧ Ext (foot g pm vb vk get) w wB ∧ ∀ b, F' b → foot g pm vb vk get b ∨ w.heap.size ≤ b := by
  have hw := hxA.size
  have tent : ∀ {b : Nat} {t : TypeId} {cs : Array Value}, Blk wA b t cs → t ≠ 148 → t ≠ 129 → ¬ TA g vk b := fun {b t cs} hb ht ht2 e => e.elim (fun e => by obtain ⟨c, hc⟩ := ownsRow_blk hrb b e; exact hc.ne_ hb (Ne.symm ht) rfl) (fun e => hb.ne_ h.blk ht2 e)
  have uB : ∀ b, U8 wA b → ¬ TA g vk b := fun b ⟨cs, hb⟩ => tent hb (by decide) (by decide)
  have pmB : ¬ TA g vk pm := fun e => e.elim (fun e => by obtain ⟨c, hc⟩ := ownsRow_blk hrb pm e; exact h.mp.ne hc rfl) (fun e => h.mp.ne h.blk e)
  refine ⟨foot g pm vb v7 get, ⟨pt, vb, v7, pm, get, ⟨gB, h.tab.ext xB (tent h.tab (by decide) (by decide)), h.book.ext xB (fun b hb => by obtain ⟨c, hc⟩ := h.book.blk b hb; exact tent hc (by decide) (by decide)) uB, ⟨XS ++ [fv, wv, kv], ?_, ?_, fun i u hu => ?_⟩, h.mp.ext xB pmB, fun k => ?_, h.apart⟩, rfl⟩, ?_, fun b hb => ?_⟩
  · rw [List.length_append]; exact pB.1
  · rw [List.flatMap_append, List.length_append, List.length_append, hXl]; rfl
  · rw [List.flatMap_append]
    by_cases hi : i < XS.length
    · rw [List.getElem?_append_left hi] at hu
      obtain ⟨l, hl, hb⟩ := hXb i u hu
      exact ⟨l, by rw [List.getElem?_append_left (by omega)]; exact hl, hb.ext xB uB⟩
    · rw [List.getElem?_append_right (by omega)] at hu
      rw [List.getElem?_append_right (by omega), ← hXl]
      obtain ⟨j, hj⟩ : ∃ j, i - XS.length = j := ⟨_, rfl⟩
      rw [hj] at hu ⊢
      match j, hu with
      | 0, hu => cases hu; exact ⟨_, rfl, he.f.ext xB uB⟩
      | 1, hu => cases hu; exact ⟨_, rfl, he.t.ext xB uB⟩
      | 2, hu => cases hu; exact ⟨_, rfl, he.k.ext xB uB⟩
      | n + 3, hu => simp at hu
  · rcases h.plc k with p1 | ⟨v, p1, p2⟩
    · exact .inl p1
    · exact .inr ⟨v, p1, ownsRow_ext p2 xB (fun b hb => by obtain ⟨c, hc⟩ := ownsRow_blk p2 b hb; exact tent hc (by decide) (by decide))⟩
  · refine Ext.transS (hxA.mono (fun i _ e => .inl e)) xB (fun i _ e => ?_)
    exact e.elim (fun e => .inr (.inr (.inr (.inl e)))) (fun e => .inl e)
  · rcases hb with rfl | rfl | hb | hb | h1
    · exact .inl (.inl rfl)
    · exact .inl (.inr (.inl rfl))
    · exact .inl (.inr (.inr (.inl hb)))
    · rcases pB.2 with e1 | ⟨b', e1, hb'⟩
      · exact .inl (.inr (.inr (.inr (.inl (by rw [← e1]; exact hb)))))
      · rw [hb] at e1
        injection e1 with e1
        exact .inr (by omega)
    · exact .inl (.inr (.inr (.inr (.inr h1))))
theorem sNoise32 (g pt pm : Nat) (vb vk : Value) (get : List UInt8 → Option Value) (S : Sr) (w : World) (h : SlrAt w g pt vb vk pm get S) (hc : S.count ≤ 1000000000) :
    Calls Try.prog 79 #[sp g, .int .i64 32] w fun e w' => ∃ r, e = .returned r ∧ Own w' w.heap.size r (noiseL (S.count + 1) 32) ∧ SlrAt w' g pt vb vk pm get { S with count := S.count + 1 } ∧ Ext (One g) w w' :=
  sNoise_at g pt pm 32 vb vk get S w h hc (by decide) (by decide)
set_option pp.deepTerms true in
set_option pp.maxSteps 1000000 in
set_option maxRecDepth 100000 in
set_option maxHeartbeats 4000000 in
theorem sDerive_i (g : Nat) (F : Nat → Prop) (S : Sr) (fv pv : Value) (from_ : List UInt8) (ls : List (List UInt8)) (w : World) (h : Slr w g F S) (hi : S.ideal = true) (hf : Bs w Any fv from_) (hp : Parts w Any pv ls)
    (hfl : from_.length ≤ 1000000) (hll : (packL ls).length ≤ 1000000000) (hkn : S.kids.length ≤ 1000000) (hkk : ∀ c ∈ S.kids, c.key.length ≤ 1000000) (hc : S.count ≤ 1000000) :
    Calls Try.prog 40 #[sp g, fv, pv] w fun x w' => ∃ r F', x = .returned r ∧ Own w' w.heap.size r (kidKey S from_ (packL ls)) ∧ Slr w' g F' (kidSr S from_ (packL ls)) ∧ Ext F w w' ∧ ∀ b, F' b → F b ∨ w.heap.size ≤ b := by
  obtain ⟨pt, vb, vk, pm, get, h, rfl⟩ := h
  obtain ⟨fA, fc, rfl, -⟩ := hf.slice
  obtain ⟨pA, pc, rfl, -⟩ := hp.slice
  obtain ⟨lab, hlab⟩ : ∃ l, packL ls = l := ⟨_, rfl⟩
  have HPK := Lib.hid (fun (wx : World) (hx : Parts wx Any (.slice pA ls.length pc) ls) => oPack_any Any _ ls wx hx hll)
  rw [hlab] at HPK hll
  rw [hlab]
  obtain ⟨vkA, vkc, rfl, hvkc⟩ := h.kids.slice
  have HS := Lib.hid h
  have HFV := Lib.hid hf
  have HPV := Lib.hid hp
  have HI := Lib.hid hi
  have HKK := Lib.hid hkk
  have hgl := h.blk.lt
  have c0 := Blk.cell h.blk 0
  have HFL := Lib.hid (show [from_].flatten.length ≤ 140737488351232 by simp; omega)
  obtain ⟨FND, hFND⟩ : ∃ x, S.kids.find? (hitC from_ lab) = x := ⟨_, rfl⟩
  have HFND := Lib.hid hFND
  have HC : Hid (S.count ≤ 1000000000) := Lib.hid (by omega)
  obtain ⟨NO, hNO⟩ : ∃ l, noiseL (S.count + 1) 32 = l := ⟨_, rfl⟩
  have HNO := Lib.hid hNO
  have HNOL : Hid (NO.length = 32) := Lib.hid (by rw [← hNO]; exact noiseL_length _ _ (by omega))
  have HN32 := Lib.hid (fun (wx : World) (hx : SlrAt wx g pt vb (.slice vkA S.kids.length vkc) pm get S) => sNoise32 g pt pm vb _ get S wx hx HC.out)
  rw [hi] at c0
  clear h hi hf hp hlab hkk hFND hNO hll
  go_enter Try.func40, Try.ntmps40
  go_wp2_with (first
    | (go_at_call 85; (with_reducible refine (HPK.out _ HPV.out).mono ?_); rintro e1 w1 ⟨lv, rfl, ho, hx⟩; obtain ⟨lA, lc, rfl, -⟩ := ho.slice; have HO1 := Lib.hid ho; have HX1 := Lib.hid hx; have HS1 := Lib.hid (HS.out.ext_no hx); have c0 : w1.cell? ⟨g, 0, none⟩ = some (.bool true) := (by have h := Blk.cell (HS.out.ext_no hx).blk 0; rw [HI.out] at h; exact h); have c4 := Blk.cell HS1.out.blk 4; have g1 := HS1.out.blk.lt; clear ho hx))
  go_loopw [27] (fun iv wr => ∃ j : Nat, j ≤ S.kids.length ∧ iv = .int .i64 j ∧ Hid ((S.kids.take j).any (hitC from_ lab) = false) ∧ Hid (Ext No w1 wr)) (fun iv _ => S.kids.length - (intOf iv).toNat)
  case atStart => exact ⟨0, by omega, rfl, Lib.hid rfl, Lib.hid (Ext.refl _ _)⟩
  case round =>
    obtain ⟨j, hj, rfl, HM, HX⟩ := hrel
    by_cases hlt : j < S.kids.length
    · obtain ⟨o, ho⟩ : ∃ o, S.kids[j] = o := ⟨_, rfl⟩
      have HTK : Hid (S.kids.take (j + 1) = S.kids.take j ++ [o]) := Lib.hid (by rw [← ho]; exact List.take_succ_eq_append_getElem hlt)
      have HFT : Hid (hitC from_ lab o = true → S.kids.find? (hitC from_ lab) = some o) := Lib.hid (fun hp => by rw [← ho]; exact findC_take hlt HM.out (by rw [ho]; exact hp))
      have HOT : Hid (o.key.length ≤ 1000000) := Lib.hid (by rw [← ho]; exact HKK.out _ (List.getElem_mem hlt))
      have HSr := Lib.hid (HS1.out.ext_no HX.out)
      obtain ⟨gv, vc, hve, hgv, xf, xw, xk, hrg, hen⟩ := kid_at HSr.out.kids hlt
      injection hve with hv1 hv2 hv3
      subst hv1 hv3
      simp only [ho] at hen
      obtain ⟨xkA, xkc, rfl, -⟩ := hen.k.slice
      have j0 : (0 : Int) ≤ (j : Int) := by omega
      have j1 : (j : Int) < (S.kids.length : Int) := by omega
      have HRG := Lib.hid hrg
      have HEN := Lib.hid hen
      clear hrg hen ho hv2
      obtain ⟨pb, hpb⟩ : ∃ p, decide (o.from_ = from_) = p := ⟨_, rfl⟩
      obtain ⟨ps, hps⟩ : ∃ p, decide (o.what = lab) = p := ⟨_, rfl⟩
      have HPB := Lib.hid hpb
      have HPS := Lib.hid hps
      clear hpb hps
      cases pb with
      | false =>
        go_wp2_with (first
          | ((with_reducible show wpList _ _ _ (⟨some 30, _, _, _, _, _⟩ :: _) _ _); go_must (refine wpList_load_mid rfl 148 (.tmp 29) rfl gv (j * 3) rfl [xf, xw, .slice xkA o.key.length xkc] _ HRG.out Try.underlying148 rfl size_child ?_))
          | ((with_reducible show wpList _ _ _ (⟨none, .store 148 (.tmp 9) (.tmp 30), _, _, _, _⟩ :: _) _ _); go_must ((change wpList _ _ _ _ _ (wr.alloc (.cells zch 148))); refine store_blk (cs' := #[xf, xw, .slice xkA o.key.length xkc]) 148 (.tmp 9) (.tmp 30) rfl rfl (Blk.new wr 148 zch) rfl rfl rfl size_child HEN.out.one ?_); intro w2 hb2 hx2; have HW2 := Lib.hid hb2; have HX2 : Hid (Ext No wr w2) := Lib.hid (((Ext.refl No wr).alloc _).transS hx2 (fun i hi e => by have e : i = wr.heap.size := e; omega)); have r2 := Blk.cell hb2 0; clear hb2 hx2)
          | (go_at_call 39; (with_reducible refine (oSame_all _ _ o.from_ from_ _ (HEN.out.f.any.ext_no HX2.out) (HFV.out.ext_no (HX1.out.trans (HX.out.trans HX2.out))) _ HPB.out).mono ?_); rintro e3 w3 ⟨rfl, hx3⟩; have HX3 := Lib.hid (HX2.out.trans hx3); have HW3 := Lib.hid (HW2.out.ext_no hx3); have r4 := Blk.cell HW3.out 1; clear hx3))
        go_roundw
        case rel => exact ⟨j + 1, by omega, by go_num, Lib.hid (by rw [HTK.out, List.any_append, HM.out]; simp [hitC, HPB.out]), Lib.hid (HX.out.trans HX3.out)⟩
        case measure => simp [intOf]; omega
      | true =>
        cases ps with
        | false =>
          go_wp2_with (first
            | ((with_reducible show wpList _ _ _ (⟨some 30, _, _, _, _, _⟩ :: _) _ _); go_must (refine wpList_load_mid rfl 148 (.tmp 29) rfl gv (j * 3) rfl [xf, xw, .slice xkA o.key.length xkc] _ HRG.out Try.underlying148 rfl size_child ?_))
            | ((with_reducible show wpList _ _ _ (⟨none, .store 148 (.tmp 9) (.tmp 30), _, _, _, _⟩ :: _) _ _); go_must ((change wpList _ _ _ _ _ (wr.alloc (.cells zch 148))); refine store_blk (cs' := #[xf, xw, .slice xkA o.key.length xkc]) 148 (.tmp 9) (.tmp 30) rfl rfl (Blk.new wr 148 zch) rfl rfl rfl size_child HEN.out.one ?_); intro w2 hb2 hx2; have HW2 := Lib.hid hb2; have HX2 : Hid (Ext No wr w2) := Lib.hid (((Ext.refl No wr).alloc _).transS hx2 (fun i hi e => by have e : i = wr.heap.size := e; omega)); have r2 := Blk.cell hb2 0; clear hb2 hx2)
            | (go_at_call 39; (with_reducible refine (oSame_all _ _ o.from_ from_ _ (HEN.out.f.any.ext_no HX2.out) (HFV.out.ext_no (HX1.out.trans (HX.out.trans HX2.out))) _ HPB.out).mono ?_); rintro e3 w3 ⟨rfl, hx3⟩; have HX3 := Lib.hid (HX2.out.trans hx3); have HW3 := Lib.hid (HW2.out.ext_no hx3); have r4 := Blk.cell HW3.out 1; clear hx3)
            | (go_at_call 39; (with_reducible refine (oSame_all _ _ o.what lab _ (HEN.out.t.any.ext_no HX3.out) (HO1.out.any.ext_no (HX.out.trans HX3.out)) _ HPS.out).mono ?_); rintro e4 w4 ⟨rfl, hx4⟩; have HX4 := Lib.hid (HX3.out.trans hx4); have HET := Lib.hid (HEN.out.k.ext_no HX4.out); have r3 := Blk.cell (HW3.out.ext_no hx4) 2; clear hx4))
          go_roundw
          case rel => exact ⟨j + 1, by omega, by go_num, Lib.hid (by rw [HTK.out, List.any_append, HM.out]; simp [hitC, HPS.out]), Lib.hid (HX.out.trans HX4.out)⟩
          case measure => simp [intOf]; omega
        | true =>
          go_wp2_with (first
            | ((with_reducible show wpList _ _ _ (⟨some 30, _, _, _, _, _⟩ :: _) _ _); go_must (refine wpList_load_mid rfl 148 (.tmp 29) rfl gv (j * 3) rfl [xf, xw, .slice xkA o.key.length xkc] _ HRG.out Try.underlying148 rfl size_child ?_))
            | ((with_reducible show wpList _ _ _ (⟨none, .store 148 (.tmp 9) (.tmp 30), _, _, _, _⟩ :: _) _ _); go_must ((change wpList _ _ _ _ _ (wr.alloc (.cells zch 148))); refine store_blk (cs' := #[xf, xw, .slice xkA o.key.length xkc]) 148 (.tmp 9) (.tmp 30) rfl rfl (Blk.new wr 148 zch) rfl rfl rfl size_child HEN.out.one ?_); intro w2 hb2 hx2; have HW2 := Lib.hid hb2; have HX2 : Hid (Ext No wr w2) := Lib.hid (((Ext.refl No wr).alloc _).transS hx2 (fun i hi e => by have e : i = wr.heap.size := e; omega)); have r2 := Blk.cell hb2 0; clear hb2 hx2)
            | (go_at_call 39; (with_reducible refine (oSame_all _ _ o.from_ from_ _ (HEN.out.f.any.ext_no HX2.out) (HFV.out.ext_no (HX1.out.trans (HX.out.trans HX2.out))) _ HPB.out).mono ?_); rintro e3 w3 ⟨rfl, hx3⟩; have HX3 := Lib.hid (HX2.out.trans hx3); have HW3 := Lib.hid (HW2.out.ext_no hx3); have r4 := Blk.cell HW3.out 1; clear hx3)
            | (go_at_call 39; (with_reducible refine (oSame_all _ _ o.what lab _ (HEN.out.t.any.ext_no HX3.out) (HO1.out.any.ext_no (HX.out.trans HX3.out)) _ HPS.out).mono ?_); rintro e4 w4 ⟨rfl, hx4⟩; have HX4 := Lib.hid (HX3.out.trans hx4); have HET := Lib.hid (HEN.out.k.ext_no HX4.out); have r3 := Blk.cell (HW3.out.ext_no hx4) 2; clear hx4)
            | (go_at_call 65; (with_reducible refine (oJoin_any Any _ [o.key] _ (by exact Parts.lit1 HET.out.any trivial (hg := rfl)) (by have := HOT.out; simp; omega)).mono ?_); rintro e5 w5 ⟨A5, n5, c5, rfl, ho5, hx5⟩; have HX5 := Lib.hid (HX4.out.trans (((Ext.refl No _).alloc _).trans hx5)); have HO5 := Lib.hid ho5; clear ho5 hx5))
          have hr := HFT.out (by unfold hitC; rw [HPB.out, HPS.out]; rfl)
          have hk1 : kidKey S from_ lab = o.key := by unfold kidKey; rw [hr]
          have hk2 : kidSr S from_ lab = S := by unfold kidSr; rw [hr]
          rw [hk1, hk2]
          clear hr hk1 hk2
          go_ret
          have hxx := HX1.out.trans (HX.out.trans HX5.out)
          refine ⟨_, _, rfl, ?_, ⟨pt, vb, _, pm, get, HS.out.ext_no hxx, rfl⟩, hxx.no, fun b hb => .inl hb⟩
          have h := HO5.out
          have z0 := HX1.out.size
          have z1 := HX.out.size
          have z2 := HX4.out.size
          simp only [List.flatten_cons, List.flatten_nil, List.append_nil] at h
          exact h.less (by simp; omega)
    · obtain rfl : j = S.kids.length := by omega
      have hr : S.kids.find? (hitC from_ lab) = none := by
        rw [List.find?_eq_none]
        have := HM.out
        rw [List.take_length, List.any_eq_false] at this
        exact this
      have hk1 : kidKey S from_ lab = NO := by unfold kidKey; rw [hr]; exact HNO.out
      have hk2 : kidSr S from_ lab = { S with count := S.count + 1, kids := S.kids ++ [⟨from_, lab, NO⟩] } := by unfold kidSr; rw [hr, ← HNO.out]
      have HK1 := Lib.hid hk1
      have HK2 := Lib.hid hk2
      clear hr hk1 hk2 c4
      have HSR := Lib.hid (HS1.out.ext_no HX.out)
      have HO1R := Lib.hid (HO1.out.ext_no HX.out)
      have HXR := Lib.hid (HX1.out.trans HX.out)
      go_wp2_with (first
        | (go_at_call 65; (with_reducible refine (oJoin_any Any _ [from_] _ (by exact Parts.lit1 (HFV.out.ext_no HXR.out) trivial (hg := rfl)) HFL.out).mono ?_); rintro e5 w5 ⟨A5, n5, c5, rfl, ho, hx⟩; have hx' := ((Ext.refl No _).alloc _).trans hx; have HX5 := Lib.hid hx'; have HO5 : Hid (By w5 (.slice A5 n5 c5) from_) := Lib.hid (by simpa using By.of_own ho); clear ho hx hx')
        | (go_at_call 79; (with_reducible refine (HN32.out _ (HSR.out.ext_no HX5.out)).mono ?_); rintro e6 w6 ⟨r6, rfl, ho, hs, hx⟩; rw [HNO.out] at ho; obtain ⟨A6, c6, rfl, -⟩ := ho.slice; have HO6 := Lib.hid (By.of_own ho); have HX6 := Lib.hid hx; have HS6 : Hid (SlrAt w6 g pt vb (.slice vkA S.kids.length vkc) pm get { S with count := S.count + 1 }) := Lib.hid hs; have HG5 := Lib.hid (HSR.out.ext_no HX5.out).blk; have HO56 := Lib.hid (HO5.out.oneg HG5.out (by decide) hx); have HL6 := Lib.hid ((By.of_own (HO1R.out.ext_no HX5.out)).oneg HG5.out (by decide) hx); clear ho hs hx)
        | ((with_reducible show wpList _ _ _ (⟨none, .store 148 (.tmp 10) (.tmp 52), _, _, _, _⟩ :: _) _ _); go_must ((change wpList _ _ _ _ _ (w6.alloc (.cells zch 148))); refine store_blk (cs' := #[.slice A5 n5 c5, .slice lA lab.length lc, .slice A6 NO.length c6]) 148 (.tmp 10) (.tmp 52) rfl rfl (Blk.new w6 148 zch) rfl rfl rfl size_child (by intro v hv; simp only [List.mem_cons, List.not_mem_nil, or_false] at hv; rcases hv with rfl | rfl | rfl <;> rfl) ?_); intro w7 hb2 hx2; have hx7 : Ext No w6 w7 := (((Ext.refl No w6).alloc _).transS hx2 (fun i hi e => by have e : i = w6.heap.size := e; omega)); have HB7 := Lib.hid hb2; have HX7 := Lib.hid hx7; have HS7 := Lib.hid (HS6.out.ext_no hx7); have HC7 : Hid (ChV w7 ⟨from_, lab, NO⟩ (.slice A5 n5 c5) (.slice lA lab.length lc) (.slice A6 NO.length c6)) := Lib.hid ⟨HO56.out.ext_no hx7, HL6.out.ext_no hx7, HO6.out.ext_no hx7⟩; clear hb2 hx2 hx7))
      have hks := HS7.out.kids
      obtain ⟨XS, hxo, hxl, hxb⟩ := hks
      have HRB := Lib.hid hxo
      have HXL := Lib.hid hxl
      have HXBY := Lib.hid hxb
      have HBL := Lib.hid hkn
      have HBXN : Hid (¬ TA g (.slice vkA S.kids.length vkc) w6.heap.size) := Lib.hid (fun e => e.elim (fun e => by have h1 := World.ownsRow.lt HS6.out.kids.choose_spec.1 _ e; omega) (fun e => by have := HS6.out.blk.lt; omega))
      clear hxo hxl hxb
      refine RF.regionL (vs := fun _ => undef) rfl (fun vs => ((sp g) :: (Value.slice fA from_.length fc) :: (Value.slice pA ls.length pc) :: undef :: undef :: undef :: u6 :: (Value.slice lA lab.length lc) :: undef :: u9 :: (Value.pointer (some ⟨w6.heap.size, 0, none⟩)) :: (Value.slice pA ls.length pc) :: (Value.slice lA lab.length lc) :: (sp g) :: (Value.pointer (some ⟨g, 0, none⟩)) :: (Value.pointer (some ⟨g, 0, none⟩)) :: (Value.bool true) :: (Value.bool false) :: undef :: undef :: undef :: undef :: (sp g) :: (Value.pointer (some ⟨g, 0, none⟩)) :: (Value.pointer (some ⟨g, 4, none⟩)) :: (Value.slice vkA S.kids.length vkc) :: (Value.int IntKind.i64 (S.kids.length : Int)) :: (Value.int IntKind.i64 (S.kids.length : Int)) :: (Value.bool false) :: u29 :: u30 :: u31 :: u32 :: u33 :: u34 :: u35 :: u36 :: u37 :: u38 :: u39 :: u40 :: u41 :: u42 :: u43 :: u44 :: u45 :: (Value.slice fA from_.length fc) :: (Value.slice (some ⟨wr.heap.size, 0, none⟩) 1 1) :: (Value.slice A5 n5 c5) :: (Value.slice lA lab.length lc) :: (sp g) :: (Value.slice A6 NO.length c6) :: (Value.agg #[Value.slice A5 n5 c5, Value.slice lA lab.length lc, Value.slice A6 NO.length c6]) :: (vs 0) :: (vs 1) :: (vs 2) :: (vs 3) :: (vs 4) :: (vs 5) :: (vs 6) :: (vs 7) :: (vs 8) :: (vs 9) :: undef :: undef :: undef :: undef :: []).toArray)
        (F11 g 4 148 3 (Value.slice vkA S.kids.length vkc) S.kids.length XS [.slice A5 n5 c5, .slice lA lab.length lc, .slice A6 NO.length c6] w7) (fun vs wz => GA g 129 #[.bool S.ideal, .pointer (some ⟨pt, 0, none⟩), vb, .map (some pm), .slice vkA S.kids.length vkc, .int .u64 ((S.count + 1 : Nat) : Int), .bool S.reused, .bool S.forged] 4 148 3 (Value.slice vkA S.kids.length vkc) S.kids.length XS w7 (vs 7) (vs 10) wz) 10 rfl (by kernel_rfl) ?_ ?_ ?_
      · exact ⟨(Ext.refl _ w7).drew, fun _ => HRB.out, fun _ => HS7.out.blk, fun e => (by unfold undef at e; cases e)⟩
      · refine ⟨⟨⟨⟨⟨⟨⟨⟨⟨⟨⟨trivial, ?_⟩, ?_⟩, ?_⟩, ?_⟩, ?_⟩, ?_⟩, ?_⟩, ?_⟩, ?_⟩, ?_⟩, ?_⟩
        · refine RF.Step.late ?_
          refine RF.Step.plain rfl rfl (fun vs wx hG hv hd K hK => ?_)
          have HG0 := Lib.hid hG
          clear hG
          go_simp
          have h4 := hK _ _ HG0.out rfl (fun _ _ h => h)
          first | exact h4 | (simpa only [RF.upd, Nat.reduceEqDiff, if_true, if_false, reduceIte] using h4) | (simp only [RF.upd, Nat.reduceEqDiff, if_true, if_false, reduceIte] at h4 ⊢; exact h4)
        · refine RF.Step.late ?_
          refine RF.Step.plain rfl rfl (fun vs wx hG hv hd K hK => ?_)
          have HG0 := Lib.hid hG
          clear hG
          go_simp
          have h4 := hK _ _ HG0.out rfl (fun _ _ h => h)
          first | exact h4 | (simpa only [RF.upd, Nat.reduceEqDiff, if_true, if_false, reduceIte] using h4) | (simp only [RF.upd, Nat.reduceEqDiff, if_true, if_false, reduceIte] at h4 ⊢; exact h4)
        · refine RF.Step.late ?_
          refine RF.Step.plain rfl rfl (fun vs wx hG hv hd K hK => ?_)
          have h0 : vs 1 = Value.pointer (some ⟨g, 0, none⟩) := by first | exact hd.1 | exact hd.2.1 | exact hd.2.2.1 | exact hd.2.2.2.1 | exact hd.2.2.2.2.1
          obtain ⟨gl, glx⟩ : g < wx.heap.size ∧ True := ⟨Nat.lt_of_lt_of_le HS7.out.blk.lt hG.x.size, trivial⟩
          have HG0 := Lib.hid hG
          clear hG
          go_simp
          have h4 := hK _ _ HG0.out rfl (fun _ _ h => h)
          first | exact h4 | (simpa only [RF.upd, h0, Nat.reduceEqDiff, if_true, if_false, reduceIte] using h4) | (simp only [RF.upd, h0, Nat.reduceEqDiff, if_true, if_false, reduceIte] at h4 ⊢; exact h4)
        · refine RF.Step.late ?_
          refine RF.Step.plain rfl rfl (fun vs wx hG hv hd K hK => ?_)
          have h0 : vs 2 = Value.pointer (some ⟨g, 0, none⟩) := by first | exact hd.1 | exact hd.2.1 | exact hd.2.2.1 | exact hd.2.2.2.1 | exact hd.2.2.2.2.1
          obtain ⟨gl, glx⟩ : g < wx.heap.size ∧ True := ⟨Nat.lt_of_lt_of_le HS7.out.blk.lt hG.x.size, trivial⟩
          have HG0 := Lib.hid hG
          clear hG
          go_simp
          have h4 := hK _ _ HG0.out rfl (fun _ _ h => h)
          first | exact h4 | (simpa only [RF.upd, h0, Nat.reduceEqDiff, if_true, if_false, reduceIte] using h4) | (simp only [RF.upd, h0, Nat.reduceEqDiff, if_true, if_false, reduceIte] at h4 ⊢; exact h4)
        · refine RF.StepL.plain rfl rfl rfl (fun vs wx hG hv hl hd K hK => ?_)
          have h0 : vs 3 = Value.pointer (some ⟨g, 4, none⟩) := by first | exact hd.1 | exact hd.2.1 | exact hd.2.2.1 | exact hd.2.2.2.1 | exact hd.2.2.2.2.1
          obtain ⟨gl, glx⟩ : g < wx.heap.size ∧ True := ⟨Nat.lt_of_lt_of_le HS7.out.blk.lt hG.x.size, trivial⟩
          have cf := Blk.cell (hG.old hl) 4
          have HG0 := Lib.hid hG
          clear hG
          go_simp
          have h4 := hK _ _ HG0.out rfl (fun _ _ h => h)
          first | exact h4 | (simpa only [RF.upd, h0, Nat.reduceEqDiff, if_true, if_false, reduceIte] using h4) | (simp only [RF.upd, h0, Nat.reduceEqDiff, if_true, if_false, reduceIte] at h4 ⊢; exact h4)
        · refine RF.Step.late ?_
          refine RF.Step.plain rfl rfl (fun vs wx hG hv hd K hK => ?_)
          refine wp_load_row 148 (.tmp 10) rfl _ rfl _ _ _ _ (HB7.out.ext hG.x HBXN.out) Try.underlying148 rfl size_child ?_
          exact hK _ _ hG rfl (fun _ _ h => h)
        · refine RF.Step.late ?_
          refine RF.Step.plain rfl rfl (fun vs wx hG hv hd K hK => ?_)
          have h5 : vs 5 = Value.agg ([.slice A5 n5 c5, .slice lA lab.length lc, .slice A6 NO.length c6]).toArray := by first | exact hd.1 | exact hd.2.1 | exact hd.2.2.1 | exact hd.2.2.2.1 | exact hd.2.2.2.2.1
          have HG0 := Lib.hid hG
          clear hG
          go_simp
          have hxa : Ext No wx (wx.alloc (.cells ([.slice A5 n5 c5, .slice lA lab.length lc, .slice A6 NO.length c6]).toArray 148)) := (Ext.refl No wx).alloc _
          have h4 := hK (.slice (some ⟨wx.heap.size, 0, none⟩) 1 1) (wx.alloc (.cells ([.slice A5 n5 c5, .slice lA lab.length lc, .slice A6 NO.length c6]).toArray 148)) (HG0.out.no hxa) ⟨wx.heap.size, HG0.out.x.size, rfl, Blk.new _ _ _⟩ (fun j _ h => F11.no hxa j _ h)
          first | exact h4 | (simpa only [RF.upd, h5, Nat.reduceEqDiff, if_true, if_false, reduceIte] using h4) | (simp only [RF.upd, h5, Nat.reduceEqDiff, if_true, if_false, reduceIte] at h4 ⊢; exact h4)
        · refine RF.StepL.plain rfl rfl rfl (fun vs wx hG hv hl hd K hK => ?_)
          have h4 : vs 4 = Value.slice vkA S.kids.length vkc := by first | exact hd.1 | exact hd.2.1 | exact hd.2.2.1 | exact hd.2.2.2.1 | exact hd.2.2.2.2.1
          obtain ⟨bb, hbb, h6, hbk⟩ : FB 148 [.slice A5 n5 c5, .slice lA lab.length lc, .slice A6 NO.length c6] w7 (vs 6) wx := by first | exact hd.1 | exact hd.2.1 | exact hd.2.2.1 | exact hd.2.2.2.1 | exact hd.2.2.2.2.1
          refine wp_app (.tmp 57) (.tmp 59) _ rfl 0 148 (.agg #[.slice none 0 0, .slice none 0 0, .slice none 0 0]) 3 72 Try.underlying127 info_child rfl (by omega) (Value.slice vkA S.kids.length vkc) S.kids.length XS (by show vs 4 = _; exact h4) (hG.own hv) Any _ 1 [.slice A5 n5 c5, .slice lA lab.length lc, .slice A6 NO.length c6] (by show vs 6 = _; exact h6) (sl_rec hbk rfl) (HC7.out.one) (by have := HBL.out; unfold maxLen; omega) (by have := HBL.out; omega) (Nat.zero_le _) ?_
          intro v' w' ho hg hb
          obtain ⟨k1, k2, k3⟩ := hG.app (news := [.slice A5 n5 c5, .slice lA lab.length lc, .slice A6 NO.length c6]) (by decide) HRB.out HS7.out.blk ho hg hb hl
          exact hK v' w' k1 k2 (fun j hj h => F11.app k3 j hj _ h)
        · refine RF.Step.late ?_
          refine RF.Step.plain rfl rfl (fun vs wx hG hv hd K hK => ?_)
          have h0 : vs 0 = Value.pointer (some ⟨g, 0, none⟩) := by first | exact hd.1 | exact hd.2.1 | exact hd.2.2.1 | exact hd.2.2.2.1 | exact hd.2.2.2.2.1
          obtain ⟨gl, glx⟩ : g < wx.heap.size ∧ True := ⟨Nat.lt_of_lt_of_le HS7.out.blk.lt hG.x.size, trivial⟩
          have HG0 := Lib.hid hG
          clear hG
          go_simp
          have h4 := hK _ _ HG0.out rfl (fun _ _ h => h)
          first | exact h4 | (simpa only [RF.upd, h0, Nat.reduceEqDiff, if_true, if_false, reduceIte] using h4) | (simp only [RF.upd, h0, Nat.reduceEqDiff, if_true, if_false, reduceIte] at h4 ⊢; exact h4)
        · refine RF.Step.late ?_
          refine RF.Step.plain rfl rfl (fun vs wx hG hv hd K hK => ?_)
          have h0 : vs 8 = Value.pointer (some ⟨g, 0, none⟩) := by first | exact hd.1 | exact hd.2.1 | exact hd.2.2.1 | exact hd.2.2.2.1 | exact hd.2.2.2.2.1
          obtain ⟨gl, glx⟩ : g < wx.heap.size ∧ True := ⟨Nat.lt_of_lt_of_le HS7.out.blk.lt hG.x.size, trivial⟩
          have HG0 := Lib.hid hG
          clear hG
          go_simp
          have h4 := hK _ _ HG0.out rfl (fun _ _ h => h)
          first | exact h4 | (simpa only [RF.upd, h0, Nat.reduceEqDiff, if_true, if_false, reduceIte] using h4) | (simp only [RF.upd, h0, Nat.reduceEqDiff, if_true, if_false, reduceIte] at h4 ⊢; exact h4)
        · refine RF.Step.late ?_
          refine RF.Step.plain rfl rfl (fun vs wx hG hv hd K hK => ?_)
          have h7 : FP 148 3 (Value.slice vkA S.kids.length vkc) S.kids.length XS [.slice A5 n5 c5, .slice lA lab.length lc, .slice A6 NO.length c6] w7 (vs 7) wx := by first | exact hd.1 | exact hd.2.1 | exact hd.2.2.1 | exact hd.2.2.2.1 | exact hd.2.2.2.2.1
          have h9 : vs 9 = Value.pointer (some ⟨g, 4, none⟩) := by first | exact hd.1 | exact hd.2.1 | exact hd.2.2.1 | exact hd.2.2.2.1 | exact hd.2.2.2.2.1
          have ob := hG.old hv
          have q0 := Blk.cell ob 4
          have q1 := Blk.frozen ob 4
          have q2 := ob.lt
          obtain ⟨k1, k2, k3⟩ := hG.put (by decide) HS7.out.blk h7 hv
          have HK1 := Lib.hid k1
          have HK2 := Lib.hid k2
          have HK3 := Lib.hid k3
          obtain ⟨A7, c7, e7, -⟩ := ownsRow_slice h7.1
          clear hG ob k1 k2 k3 h7
          go_simp
          have h4 := hK (.bool true) (wx.setCell ⟨g, 4, none⟩ (vs 7)) HK1.out rfl (fun j hj h => F11.put HK2.out HK3.out j hj vs rfl h)
          first | exact h4 | (simpa only [RF.upd, h9, e7, Nat.reduceEqDiff, if_true, if_false, reduceIte] using h4) | (simp only [RF.upd, h9, e7, Nat.reduceEqDiff, if_true, if_false, reduceIte] at h4 ⊢; exact h4)
      · intro vsB wB hG hF
        have h7 := hF 7 (by decide)
        have h10 : vsB 10 = Value.bool true := hF 10 (by decide)
        have HXB := Lib.hid hG.x
        have HGB := Lib.hid (hG.new_ h10)
        have HPB := Lib.hid h7
        have HKV : Hid (By wB (.slice A6 NO.length c6) NO) := Lib.hid (HC7.out.k.ext hG.x (fun b hb e => e.elim (fun e => by obtain ⟨c, hc⟩ := ownsRow_blk HRB.out b e; exact u8_ne hb hc (by decide) rfl) (fun e => u8_ne hb HS7.out.blk (by decide) e)))
        have d2 := Blk.cell (HB7.out.ext hG.x HBXN.out) 2
        clear hF hG h7 h10
        go_wp2_with (first
          | (go_at_call 65; (with_reducible refine (oJoin_any Any _ [NO] _ (by exact Parts.lit1 HKV.out.any trivial (hg := rfl)) (by have := HNOL.out; simp; omega)).mono ?_); rintro e9 w9 ⟨A9, n9, c9, rfl, ho9, hx9⟩; have HX9 := Lib.hid (((Ext.refl No _).alloc _).trans hx9); have HO9 := Lib.hid ho9; clear ho9 hx9))
        rw [HK1.out, HK2.out]
        go_ret
        have hxw : Ext (One g) w w7 := ((HXR.out.trans HX5.out).no.trans HX6.out).then_ HX7.out
        obtain ⟨F', hs, hx, hF⟩ := kid_done HS.out hxw HS7.out rfl HXB.out HGB.out HXL.out HXBY.out HRB.out HPB.out HC7.out
        have z7 := hxw.size
        have zB := HXB.out.size
        refine ⟨_, F', rfl, ?_, hs.ext_no HX9.out, hx.then_ HX9.out, hF⟩
        have h := HO9.out
        simp only [List.flatten_cons, List.flatten_nil, List.append_nil] at h
        exact h.less (by simp; omega)
end Go.Proofs.Ytmbbkkonmkbnoaa
namespace Go.Proofs.Ytmbbkkonmkbnoaa
open Go.RowKit Go.Deep
/-- A sealer that was made behind the world W. -/
structure Sl1 (W w : World) (g : Nat) (F : Nat → Prop) (S : Sr) : Prop where
  s : Slr w g F S
  lo : ∀ k, F k → W.heap.size ≤ k
  x : Ext No W w
section
variable {W w w' : World} {g h : Nat} {F F' T T' : Nat → Prop} {S S' R R' : Sr} {v : Value} {l : List UInt8}
theorem Sl1.no (a : Sl1 W w g F S) (hx : Ext No w w') : Sl1 W w' g F S := ⟨a.s.ext_no hx, a.lo, a.x.trans hx⟩
theorem Sl1.step (a : Sl1 W w g F S) (s : Slr w' g F' S') (hx : Ext F w w') (hn : ∀ b, F' b → F b ∨ w.heap.size ≤ b) : Sl1 W w' g F' S' :=
  ⟨s, fun k hk => (hn k hk).elim (a.lo k) (fun h => Nat.le_trans a.x.size h), a.x.transS hx (fun i hi e => by have := a.lo i e; omega)⟩
theorem Sl1.one (a : Sl1 W w g F S) (s : Slr w' g F S') (hx : Ext (One g) w w') : Sl1 W w' g F S' :=
  a.step s (hx.mono fun i _ e => by have e : i = g := e; rw [e]; exact a.s.at_) (fun _ h => .inl h)
theorem Sl1.by_ (a : Sl1 W w g F S) (hx : Ext F w w') (hb : By w v l) : By w' v l := hb.ext hx fun b hb => a.s.u8 hb
/-- Two of them. -/
structure Two2 (W w : World) (g : Nat) (F : Nat → Prop) (S : Sr) (h : Nat) (T : Nat → Prop) (R : Sr) : Prop where
  a : Sl1 W w g F S
  b : Sl1 W w h T R
  d : ∀ k, F k → ¬ T k
theorem Two2.no (t : Two2 W w g F S h T R) (hx : Ext No w w') : Two2 W w' g F S h T R := ⟨t.a.no hx, t.b.no hx, t.d⟩
theorem Two2.left (t : Two2 W w g F S h T R) (s : Slr w' g F' S') (hx : Ext F w w') (hn : ∀ b, F' b → F b ∨ w.heap.size ≤ b) : Two2 W w' g F' S' h T R :=
  have a := t.a.step s hx hn
  ⟨a, ⟨t.b.s.ext hx (fun k hk e => t.d k e hk) (fun k hk => t.a.s.u8 hk) (fun k c hk => t.a.s.far hk), t.b.lo, a.x⟩, fun k hk hT => (hn k hk).elim (fun e => t.d k e hT) (fun e => by have := t.b.s.lt hT; omega)⟩
theorem Two2.swap (t : Two2 W w g F S h T R) : Two2 W w h T R g F S := ⟨t.b, t.a, fun k h1 h2 => t.d k h2 h1⟩
theorem Two2.right (t : Two2 W w g F S h T R) (s : Slr w' h T' R') (hx : Ext T w w') (hn : ∀ b, T' b → T b ∨ w.heap.size ≤ b) : Two2 W w' g F S h T' R' := (t.swap.left s hx hn).swap
theorem Sl1.new (s : Slr w' g F S) (hx : Ext No W w) (hx2 : Ext No w w') (hn : ∀ b, F b → w.heap.size ≤ b) : Sl1 W w' g F S := ⟨s, fun k hk => Nat.le_trans hx.size (hn k hk), hx.trans hx2⟩
theorem Two2.new (a : Sl1 W w g F S) (s : Slr w' h T R) (hx : Ext No w w') (hn : ∀ b, T b → w.heap.size ≤ b) : Two2 W w' g F S h T R :=
  ⟨a.no hx, ⟨s, fun k hk => Nat.le_trans a.x.size (hn k hk), a.x.trans hx⟩, fun k h1 h2 => by have := a.s.lt h1; have := hn k h2; omega⟩
end
/-- The key of a number. -/
def key4 (n : Nat) : List UInt8 := UInt8.ofNat (n % 4) :: List.replicate 31 0
theorem key4_length (n : Nat) : (key4 n).length = 32 := by simp [key4]
set_option maxRecDepth 100000 in
theorem lKey4 (n : Nat) (hn : n < 256) (w : World) : Calls Try.prog 36 #[.int .u8 (n : Int)] w fun e w' => ∃ r, e = .returned r ∧ Own w' w.heap.size r (key4 n) ∧ Ext No w w' := by
  have hmk : ∀ W : World, (Instr.makeSlice 22 (.int .i64 32) (.int .i64 32)).run Try.prog W = .ok (.slice (some ⟨W.heap.size, 0, none⟩) 32 32) (W.alloc (.cells (u8s (List.replicate 32 0)).toArray 5)) := mk_u8 32 (by omega)
  have hn0 : (0 : Int) ≤ (n : Int) := by omega
  have hn1 : (n : Int) < 256 := by omega
  have hb : (n : Int) % 4 = ((UInt8.ofNat (n % 4)).toNat : Int) := by rw [UInt8.toNat_ofNat']; omega
  have HB := Lib.hid hb
  have hx : ∀ u : Value, Ext No w ((w.alloc (.cells (u8s (List.replicate 32 0)).toArray 5)).setCell ⟨w.heap.size, 0, none⟩ u) := fun u => ((Ext.refl No w).alloc _).setCell (p := ⟨w.heap.size, 0, none⟩) (fun h => absurd h (Nat.lt_irrefl _)) u
  have HX := Lib.hid hx
  have hbk := Blk.new w 5 (u8s (List.replicate 32 0)).toArray
  have HBK := Lib.hid hbk
  have q0 := Blk.frozen hbk 0
  have q1 : (w.alloc (.cells (u8s (List.replicate 32 0)).toArray 5)).cell? ⟨w.heap.size, 0, none⟩ = some (.int .u8 0) := hbk.cell 0
  clear hb hx hbk
  go_enter Try.func36, Try.ntmps36
  go_wp2
  go_ret
  refine ⟨_, rfl, ?_, (Ext.refl No w).alloc _⟩
  rw [HB.out]
  have h := World.ownsRow_lit (base := w.heap.size) (e := 5) (size := 1) w (u8s (key4 n)).toArray 32 (Nat.le_refl _) (by simp [maxLen]) (by simp [key4, u8s])
  unfold Own
  rw [key4_length]
  exact h
/-- A byte's literal among numbers. -/
theorem lKey1 (w : World) : Calls Try.prog 36 #[.int .u8 1] w fun e w' => ∃ r, e = .returned r ∧ Own w' w.heap.size r (key4 1) ∧ Ext No w w' := lKey4 1 (by decide) w
theorem lNonce12 (w : World) : Calls Try.prog 34 #[.int .u64 1, .int .u32 2] w fun e w' => ∃ r, e = .returned r ∧ Own w' w.heap.size r (nonceL 1 2) ∧ Ext No w w' := sNonce_any 1 2 w (by decide) (by decide)
theorem lNonce13 (w : World) : Calls Try.prog 34 #[.int .u64 1, .int .u32 3] w fun e w' => ∃ r, e = .returned r ∧ Own w' w.heap.size r (nonceL 1 3) ∧ Ext No w w' := sNonce_any 1 3 w (by decide) (by decide)
end Go.Proofs.Ytmbbkkonmkbnoaa
