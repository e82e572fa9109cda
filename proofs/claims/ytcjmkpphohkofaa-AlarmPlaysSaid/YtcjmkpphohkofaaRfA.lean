/- The reference's clock, told by the clock's own state: New, at, Left, Rung, Set, Calm. -/
import Derived.Test.YtcjmkpphohkofaaNextL
namespace Go.Proofs.Ytcjmkpphohkofaa
open Go.RowKit Go.Shelf
set_option linter.unusedVariables false

def rfP (y : Nat) (a b : Int) (now : Nat) (sl : Value) (ol : List Al) : List Pc := [.blk y [.int .i64 a, .int .i64 b, .int .i64 now, sl] 71, .own 73 4 sl ol.length (alC ol)]
/-- The reference at y is in the state s; its alarms stand in the order of their setting, with the ticks by which they ring. -/
def RfOk (R : Int) (s : Ck) (now : Nat) (ol : List Al) : Prop := (now : Int) ≤ R ∧ (ol.map (decA now)).Perm s.l ∧ CkOk R s
def RF (R : Int) (y : Nat) (s : Ck) (L : List Pc) (w : World) : Prop := ∃ (now : Nat) (sl : Value) (ol : List Al), SL w (rfP y s.a s.b now sl ol ++ L) ∧ RfOk R s now ol
theorem elemO : ElemK Try.prog 69 73 4 zAl 32 := ⟨by kernel_rfl, by kernel_rfl, rfl, by decide⟩
theorem own_alE {e : TypeId} {v : Value} {l : List Al} {w : World} {L : List Pc} (H : SL w (.own e 4 v l.length (alC l) :: L)) {i : Nat} (hi : i < l.length) :
    ∃ g cap, v = .slice (some ⟨g, 0, none⟩) l.length cap ∧ l.length ≤ cap ∧ w.cell? ⟨g, i * 4, none⟩ = some (.int .u64 (l[i]'hi).key) ∧ w.cell? ⟨g, i * 4 + 1, none⟩ = some (.int .i64 (l[i]'hi).wait) ∧ w.cell? ⟨g, i * 4 + 2, none⟩ = some (.int .i64 (l[i]'hi).left) ∧ w.cell? ⟨g, i * 4 + 3, none⟩ = some (.int .i64 (l[i]'hi).rung) := by
  have hown : OwnK w 0 e 4 v l.length (alC l) := H.head
  rcases hown.form with ⟨-, e, -⟩ | ⟨g, cap, rfl, -, -, hnc, -, -, hc, -⟩
  · omega
  · obtain ⟨h0, h1, h2, h3⟩ := alC_at l hi
    have f : ∀ j, j < 4 → ∀ u, (alC l)[i * 4 + j]? = some u → w.cell? ⟨g, i * 4 + j, none⟩ = some u := fun j hj u hu => by
      rw [hc (i * 4 + j) (by omega), List.getD_eq_getElem?_getD, hu]; rfl
    exact ⟨g, cap, rfl, hnc, f 0 (by omega) _ h0, f 1 (by omega) _ h1, f 2 (by omega) _ h2, f 3 (by omega) _ h3⟩
theorem rd_front {w : World} {L : List Pc} {b : Nat} {ys : List Value} {t : TypeId} (H : SL w (.blk b ys t :: L)) : Rd w (some ⟨b, 0, none⟩) ys.length (fun j => ys.getD j undef) := fun j hj => ⟨b, 0, rfl, by
  rw [Nat.zero_add]
  refine H.cell (.here _ _) ?_
  show _ = some (ys.getD j undef)
  rw [List.getElem?_eq_getElem hj, List.getD_eq_getElem?_getD, List.getElem?_eq_getElem hj]
  rfl⟩
theorem sl_form {e : TypeId} {k n : Nat} {v : Value} {xs : List Value} {L : List Pc} {w : World} (H : SL w (.own e k v n xs :: L)) : ∃ a c, v = .slice a n c ∧ n ≤ c ∧ (a = none → c = 0) := by
  obtain ⟨a, c, h1, h2, -, h3, -⟩ := OwnK.slice (show OwnK w 0 e k v n xs from H.head)
  exact ⟨a, c, h1, h2, h3⟩

section
variable {R : Int} {s : Ck} {now : Nat} {ol : List Al}
theorem RfOk.len (h : RfOk R s now ol) : ol.length = s.l.length := by have := h.2.1.length_eq; simpa using this
theorem RfOk.keys (h : RfOk R s now ol) : (keysK ol).Perm (keysK s.l) := by
  have := h.2.1.map Al.key
  rw [List.map_map] at this
  exact this
theorem RfOk.nd (h : RfOk R s now ol) : (keysK ol).Nodup := h.keys.nodup_iff.2 ((keys_srt h.2.2.srt).imp fun hab => by omega)
theorem RfOk.mem (h : RfOk R s now ol) {i : Nat} (hi : i < ol.length) : decA now (ol[i]'hi) ∈ s.l := h.2.1.mem_iff.1 (List.mem_map.2 ⟨_, List.getElem_mem hi, rfl⟩)
theorem RfOk.at' (h : RfOk R s now ol) {i : Nat} (hi : i < ol.length) : AlOk s.b R (decA now (ol[i]'hi)) := h.2.2.all _ (h.mem hi)
theorem RfOk.has (h : RfOk R s now ol) {k : Int} : hasK s.l k = true ↔ k ∈ keysK ol := by
  rw [h.keys.mem_iff, hasK_iff]
  unfold keysK
  rw [List.mem_map]
theorem RfOk.the (h : RfOk R s now ol) {i : Nat} (hi : i < ol.length) : theK s.l (ol[i]'hi).key = decA now (ol[i]'hi) := by
  have := the_of h.2.2.srt (h.mem hi)
  exact this
theorem insK_perm (l : List Al) (k a : Int) : (insK l k a).Perm (⟨k, a, a, 0⟩ :: l) := by
  unfold insK
  refine List.perm_middle.trans (List.Perm.cons _ ?_)
  have := List.filter_append_perm (fun x : Al => decide (x.key < k)) l
  exact this
end

section
variable {R : Int} {y : Nat} {s : Ck} {L : List Pc} {w : World}
theorem rnew_c (a b : Int) (ha : 1 ≤ a ∧ a ≤ b) (hb : b ≤ 65536) (H : SL w L) :
    Calls Try.prog 22 #[.int .i64 a, .int .i64 b] w fun e w' => ∃ y, e = .returned (.tuple #[ptrV y, .int .i64 0]) ∧ RF 0 y ⟨a, b, []⟩ L w' := by
  have hH := Lib.hid H
  clear H
  go_enter Try.func22, Try.ntmps22
  go_wp2_with fail
  have H1 := (hH.out.alloc [.int .i64 a, .int .i64 b, .int .i64 0, .slice none 0 0] 71)
  have hfin : Hid (RF 0 w.heap.size ⟨a, b, []⟩ L (w.alloc (.cells [.int .i64 a, .int .i64 b, .int .i64 0, .slice none 0 0].toArray 71))) := Lib.hid ⟨0, .slice none 0 0, [], (H1.pure (q := .own 73 4 (.slice none 0 0) 0 []) (OwnK.nil _ _ _ _) (fun b h => by cases h)).re (.step (.there (.here _ _)) (.same _)), by omega, by simp, ⟨ha, hb, by simp, List.Pairwise.nil, by simp⟩⟩
  clear H1
  go_wp2_with fail
  go_ret2
  exact ⟨_, rfl, hfin.out⟩
theorem rnew_no (a b : Int) (h : a < 1 ∨ b < a ∨ 65536 < b) (w : World) :
    Calls Try.prog 22 #[.int .i64 a, .int .i64 b] w fun e w' => e = .returned (.tuple #[.pointer none, .int .i64 200]) ∧ w = w' := by
  by_cases h1 : a < 1
  · go_enter Try.func22, Try.ntmps22
    go_wp2_with fail
    go_ret2
    exact ⟨rfl, rfl⟩
  · by_cases h2 : b < a
    · go_enter Try.func22, Try.ntmps22
      go_wp2_with fail
      go_ret2
      exact ⟨rfl, rfl⟩
    · have h3 : 65536 < b := by omega
      go_enter Try.func22, Try.ntmps22
      go_wp2_with fail
      go_ret2
      exact ⟨rfl, rfl⟩
def AtIs (ol : List Al) (k r : Int) : Prop := (r = -1 ∧ k ∉ keysK ol) ∨ ∃ (i : Nat) (hi : i < ol.length), r = i ∧ (ol[i]'hi).key = k
theorem at_c {a b : Int} {now : Nat} {sl : Value} {ol : List Al} (H : SL w (rfP y a b now sl ol ++ L)) (hl : ol.length ≤ 256) (k : Int) :
    Calls Try.prog 51 #[ptrV y, .int .u64 k] w fun e w' => ∃ r, e = .returned (.int .i64 r) ∧ w = w' ∧ AtIs ol k r := by
  have c3 := H.cell (b := y) (o := 3) (.here _ _) rfl
  obtain ⟨sa, sc, rfl, hsc, -⟩ := sl_form (H.re (.step (.there (.here _ _)) (.same _)))
  have hcell : Hid (∀ i (hi : i < ol.length), ∃ g, sa = some ⟨g, 0, none⟩ ∧ w.cell? ⟨g, i * 4, none⟩ = some (.int .u64 (ol[i]'hi).key)) := Lib.hid fun i hi => by
    obtain ⟨g, cap, e, -, h, -⟩ := own_alE (H.re (.step (.there (.here _ _)) (.same _))) hi
    cases e
    exact ⟨g, rfl, h⟩
  obtain ⟨n, hn⟩ : ∃ n, ol.length = n := ⟨_, rfl⟩
  have hn' := Lib.hid hn
  rw [hn] at hl hsc c3
  clear H hn
  unfold ptrV at *
  go_enter Try.func51, Try.ntmps51
  go_wp2_with fail
  go_loop [5] (fun i => ∃ j : Nat, j ≤ n ∧ i = .int .i64 j ∧ Hid (∀ m (hm : m < ol.length), m < j → (ol[m]'hm).key ≠ k)) (fun i => n - (intOf i).toNat)
  case atStart => exact ⟨0, by omega, rfl, Lib.hid fun m _ h => by omega⟩
  case round =>
    obtain ⟨j, hj, rfl, hR⟩ := hrel
    by_cases hjn : j < n
    · have hjl : j < ol.length := by rw [hn'.out]; exact hjn
      obtain ⟨g, rfl, g1⟩ := hcell.out j hjl
      by_cases hk : (ol[j]'hjl).key = k
      · have hfin : Hid (AtIs ol k j) := Lib.hid (.inr ⟨j, hjl, rfl, hk⟩)
        rw [hk] at g1
        have hkk : (k == k) = true := by simp
        clear hR hk hcell
        go_wp2_with fail
        go_ret
        exact ⟨_, rfl, rfl, hfin.out⟩
      · have hrel : Hid (∀ m (hm : m < ol.length), m < j + 1 → (ol[m]'hm).key ≠ k) := Lib.hid fun m hm h => by
          by_cases e : m = j
          · subst e; exact hk
          · exact hR.out m hm (by omega)
        have hkb : ((ol[j]'hjl).key == k) = false := by simpa using hk
        clear hR hk
        go_wp2_with fail
        go_round
        case rel => exact ⟨j + 1, by omega, by go_num, hrel⟩
        case measure => (simp [intOf]; try omega)
    · obtain rfl : j = n := by omega
      have hfin : Hid (AtIs ol k (-1)) := Lib.hid (.inl ⟨rfl, fun h => by
        obtain ⟨x, hx, e⟩ := List.mem_map.1 h
        obtain ⟨m, hm, rfl⟩ := List.getElem_of_mem hx
        exact hR.out m hm (by rw [← hn'.out]; exact hm) e⟩)
      clear hR
      go_wp2_with fail
      go_ret
      exact ⟨_, rfl, rfl, hfin.out⟩
end
end Go.Proofs.Ytcjmkpphohkofaa
