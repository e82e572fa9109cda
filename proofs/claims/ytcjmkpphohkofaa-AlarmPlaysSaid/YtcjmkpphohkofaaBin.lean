/- slices.BinarySearchFunc at alarms. -/
import Derived.Test.YtcjmkpphohkofaaFind
namespace Go.Proofs.Ytcjmkpphohkofaa
open Go.RowKit
set_option linter.unusedVariables false

def keyAt (l : List Al) (m : Nat) : Int := (l.map Al.key).getD m 0
theorem keyAt_eq (l : List Al) {m : Nat} (h : m < l.length) : keyAt l m = (l[m]'h).key := by simp [keyAt, List.getD_eq_getElem?_getD, h]
def Srt (l : List Al) : Prop := l.Pairwise fun a b => a.key < b.key
theorem Srt.lt {l : List Al} (h : Srt l) {i j : Nat} (hij : i < j) (hj : j < l.length) : keyAt l i < keyAt l j := by
  rw [keyAt_eq l (by omega), keyAt_eq l hj]
  exact List.pairwise_iff_getElem.1 h i j (by omega) hj hij
/-- Below i all keys are below k, from j on none. -/
def Cut (l : List Al) (k : Int) (i j : Nat) : Prop := i ≤ j ∧ j ≤ l.length ∧ (∀ m, m < i → keyAt l m < k) ∧ ∀ m, j ≤ m → m < l.length → k ≤ keyAt l m
def hit (l : List Al) (k : Int) (i : Nat) : Bool := decide (i < l.length ∧ keyAt l i = k)
theorem Cut.up {l : List Al} {k : Int} {i j h : Nat} (hs : Srt l) (c : Cut l k i j) (hj : h < j) (hk : keyAt l h < k) (hi : i ≤ h) : Cut l k (h + 1) j := by
  obtain ⟨c1, c2, c3, c4⟩ := c
  refine ⟨hj, c2, fun m hm => ?_, c4⟩
  rcases Nat.lt_or_ge m h with h1 | h1
  · have := hs.lt h1 (by omega); omega
  · obtain rfl : m = h := by omega
    exact hk
theorem Cut.down {l : List Al} {k : Int} {i j h : Nat} (hs : Srt l) (c : Cut l k i j) (hj : h < j) (hk : ¬ keyAt l h < k) (hi : i ≤ h) : Cut l k i h := by
  obtain ⟨c1, c2, c3, c4⟩ := c
  refine ⟨hi, by omega, c3, fun m hm hl => ?_⟩
  rcases Nat.lt_or_ge h m with h1 | h1
  · have := hs.lt h1 hl; omega
  · obtain rfl : m = h := by omega
    omega
theorem cmp_neg {a b : Int} : cmpI a b < 0 ↔ a < b := by
  unfold cmpI
  split
  · omega
  · split <;> omega
theorem cmp_eq {a b : Int} : cmpI a b = 0 ↔ a = b := by
  unfold cmpI
  split
  · omega
  · split <;> omega
theorem own_al {v : Value} {l : List Al} {w : World} {L : List Pc} (H : SL w (.own 59 4 v l.length (alC l) :: L)) {i : Nat} (hi : i < l.length) :
    ∃ g cap, v = .slice (some ⟨g, 0, none⟩) l.length cap ∧ l.length ≤ cap ∧ w.cell? ⟨g, i * 4, none⟩ = some (.int .u64 (l[i]'hi).key) ∧ w.cell? ⟨g, i * 4 + 1, none⟩ = some (.int .i64 (l[i]'hi).wait) ∧ w.cell? ⟨g, i * 4 + 2, none⟩ = some (.int .i64 (l[i]'hi).left) ∧ w.cell? ⟨g, i * 4 + 3, none⟩ = some (.int .i64 (l[i]'hi).rung) := by
  have hown : OwnK w 0 59 4 v l.length (alC l) := H.head
  rcases hown.form with ⟨-, e, -⟩ | ⟨g, cap, rfl, -, -, hnc, -, -, hc, -⟩
  · omega
  · obtain ⟨h0, h1, h2, h3⟩ := alC_at l hi
    have f : ∀ j, j < 4 → ∀ u, (alC l)[i * 4 + j]? = some u → w.cell? ⟨g, i * 4 + j, none⟩ = some u := fun j hj u hu => by
      rw [hc (i * 4 + j) (by omega), List.getD_eq_getElem?_getD, hu]; rfl
    exact ⟨g, cap, rfl, hnc, f 0 (by omega) _ h0, f 1 (by omega) _ h1, f 2 (by omega) _ h2, f 3 (by omega) _ h3⟩

set_option maxRecDepth 100000 in
set_option maxHeartbeats 4000000 in
theorem bsearch_c {v : Value} {l : List Al} {w : World} {L : List Pc} (H : SL w (.own 59 4 v l.length (alC l) :: L)) (hl : l.length ≤ 100000) (hs : Srt l) (k : Int) :
    Calls Try.prog 44 #[v, .int .u64 k, .func (.func 45) #[] #[]] w fun e w' => ∃ i : Nat, e = .returned (.tuple #[.int .i64 i, .bool (hit l k i)]) ∧ Cut l k i i ∧ SL w' (.own 59 4 v l.length (alC l) :: L) := by
  obtain ⟨n, hn⟩ : ∃ n, l.length = n := ⟨_, rfl⟩
  have hn' := Lib.hid hn
  rw [hn] at H hl ⊢
  have hown : OwnK w 0 59 4 v n (alC l) := H.head
  obtain ⟨a, cap, rfl, h1, h2, h3, -, -⟩ := hown.slice
  have hs' := Lib.hid hs
  have hH := Lib.hid H
  clear H hown hn hs
  go_enter Try.func44, Try.ntmps44
  go_wp2_with fail
  go_loopw [9, 10] (fun x y V => ∃ i j : Nat, x = .int .i64 i ∧ y = .int .i64 j ∧ j ≤ n ∧ i ≤ j ∧ Hid (Cut l k i j ∧ SL V (.own 59 4 (.slice a n cap) n (alC l) :: L))) (fun x y _ => (intOf y).toNat - (intOf x).toNat)
  case atStart => exact ⟨0, n, rfl, rfl, by omega, by omega, Lib.hid ⟨⟨by omega, by rw [hn'.out]; omega, fun m hm => by omega, fun m hm hl => by rw [hn'.out] at hl; omega⟩, hH.out⟩⟩
  case round =>
    clear hH
    obtain ⟨i, j, rfl, rfl, hjn, hij, hR⟩ := hrel
    by_cases hlt : i < j
    · obtain ⟨h, hh⟩ : ∃ h, (i + j) / 2 = h := ⟨_, rfl⟩
      have hh1 : h < j := by omega
      have hh2 : i ≤ h := by omega
      have hhl : h < l.length := by rw [hn'.out]; omega
      have hHS := hR.out.2
      rw [show SL wr (Pc.own 59 4 (.slice a n cap) n (alC l) :: L) ↔ SL wr (Pc.own 59 4 (.slice a n cap) l.length (alC l) :: L) by rw [hn'.out]] at hHS
      obtain ⟨g, cap', e, hcap, c0, c1, c2, c3⟩ := own_al hHS hhl
      simp only [Value.slice.injEq] at e
      obtain ⟨rfl, -, rfl⟩ := e
      have hb : Hid (Calls _ _ _ _ _) := Lib.hid (byKey_c (l[h]'hhl) k hR.out.2)
      have hup := Lib.hid (fun h1 => hR.out.1.up hs'.out (h := h) hh1 h1 hh2)
      have hdn := Lib.hid (fun h1 => hR.out.1.down hs'.out (h := h) hh1 h1 hh2)
      have hke := keyAt_eq l hhl
      rw [hn'.out] at hcap
      unfold Al.c at hb
      obtain ⟨kh, hkh⟩ : ∃ kh, (l[h]'hhl).key = kh := ⟨_, rfl⟩
      rw [hkh] at hke c0 hb
      rw [hke] at hup hdn
      have he : ((i : Int) + j) / 2 = h := by omega
      have hhn : h < n := by omega
      clear hR hHS hkh hke
      go_wp2_with fail
      refine hb.out.mono ?_
      rintro e w2 ⟨rfl, H2⟩
      obtain ⟨z, hz⟩ : ∃ z, cmpI kh k = z := ⟨_, rfl⟩
      have hz1 := Lib.hid (hz ▸ (cmp_neg (a := kh) (b := k)))
      rw [hz]
      clear hz hb
      by_cases hz0 : z < 0
      · have hrel := Lib.hid (show Cut l k (h + 1) j ∧ SL w2 _ from ⟨hup.out (hz1.out.1 hz0), H2⟩)
        clear hup hdn H2 hz1
        go_wp2_with fail
        go_roundw
        case rel => exact ⟨h + 1, j, by go_num, rfl, by omega, by omega, hrel⟩
        case measure => (simp [intOf]; try omega)
      · have hrel := Lib.hid (show Cut l k i h ∧ SL w2 _ from ⟨hdn.out (by have := mt hz1.out.2 hz0; omega), H2⟩)
        clear hup hdn H2 hz1
        go_wp2_with fail
        go_roundw
        case rel => exact ⟨i, h, rfl, by go_num, by omega, by omega, hrel⟩
        case measure => (simp [intOf]; try omega)
    · obtain rfl : i = j := by omega
      have hc := Lib.hid hR.out.1
      by_cases hin : i < n
      · have hil : i < l.length := by rw [hn'.out]; exact hin
        have hHS := hR.out.2
        rw [show SL wr (Pc.own 59 4 (.slice a n cap) n (alC l) :: L) ↔ SL wr (Pc.own 59 4 (.slice a n cap) l.length (alC l) :: L) by rw [hn'.out]] at hHS
        obtain ⟨g, cap', e, hcap, c0, c1, c2, c3⟩ := own_al hHS hil
        simp only [Value.slice.injEq] at e
        obtain ⟨rfl, -, rfl⟩ := e
        have hb : Hid (Calls _ _ _ _ _) := Lib.hid (byKey_c (l[i]'hil) k hR.out.2)
        have hke := keyAt_eq l hil
        have hhit : Hid (hit l k i = decide (cmpI (l[i]'hil).key k = 0)) := Lib.hid (by
          unfold hit
          rw [hke]
          by_cases h : (l[i]'hil).key = k
          · rw [decide_eq_true (cmp_eq.2 h), decide_eq_true ⟨hil, h⟩]
          · rw [decide_eq_false (fun e => h (cmp_eq.1 e)), decide_eq_false (fun e => h e.2)])
        rw [hn'.out] at hcap
        unfold Al.c at hb
        clear hR hHS hke
        go_wp2_with fail
        refine hb.out.mono ?_
        rintro e w2 ⟨rfl, H2⟩
        obtain ⟨z, hz⟩ : ∃ z, cmpI (l[i]'hil).key k = z := ⟨_, rfl⟩
        rw [hz] at hhit ⊢
        have hfin := Lib.hid H2
        clear hb H2 hz
        go_wp2_with fail
        go_ret2
        exact ⟨i, by rw [hhit.out]; rfl, hc.out, hfin.out⟩
      · have hhit : Hid (hit l k i = false) := Lib.hid (decide_eq_false (fun e => hin (by have := e.1; rw [hn'.out] at this; exact this)))
        have hfin := Lib.hid hR.out.2
        clear hR
        go_wp2_with fail
        go_ret2
        exact ⟨i, by rw [hhit.out]; rfl, hc.out, hfin.out⟩
end Go.Proofs.Ytcjmkpphohkofaa
