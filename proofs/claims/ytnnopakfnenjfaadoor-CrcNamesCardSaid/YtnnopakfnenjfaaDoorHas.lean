/- TrailingZeros32 and the bits of a number handed over one by one. -/
import Derived.Test.YtnnopakfnenjfaaDoorBits
import Derived.Test.YtnnopakfnenjfaaDoorRange
import Derived.WalkSpells
namespace Go.Proofs.YtnnopakfnenjfaaDoor
open Go.RowKit

/-- The table lies. -/
def Tab (w : World) : Prop := ∀ i, i < 32 → w.cell? ⟨0, i, none⟩ = some (.int .u8 (tz32.getD i 0))
theorem Tab.kept {S : Nat → Prop} {w w' : World} (h : Tab w) (hk : Kp S w w') (hs : ¬ S 0) : Tab w' := fun i hi => hk.cell (h i hi) hs
theorem Tab.no {w w' : World} (h : Tab w) (hk : Kp no w w') : Tab w' := h.kept hk fun h => h
theorem Tab.lt {w : World} (h : Tab w) : 0 < w.heap.size := cell_lt (h 0 (by omega))

theorem tz_c (x : BitVec 32) (i : Nat) (hi : IsLow x i) (w : World) (ht : Tab w) : Calls Tryd.prog 23 #[.int .u32 (U x)] w fun e w' => e = .returned (.int .i64 i) ∧ w = w' := by
  have h1 := U_nn x
  have h2 := U_lt32 x
  have hne : (U x == 0) = false := by
    rw [show (0 : Int) = U (0#32) from rfl, U_beq]
    simp only [beq_eq_false_iff_ne, ne_eq]
    rintro rfl
    have := hi.2.1; simp at this
  obtain ⟨t1, t2, t3⟩ := tz_all ⟨i, hi.1⟩
  simp only at t1 t2 t3
  have hcell := ht (tzAt i) t2
  rw [t3] at hcell
  have hi32 := hi.1
  obtain ⟨N, hN⟩ : ∃ N, -U x % 4294967296 = N := ⟨_, rfl⟩
  have hA : bits .and .u32 (U x) N = U (1#32 <<< i) := by rw [← hN, neg32, and32, hi.and_neg]
  obtain ⟨A, hA'⟩ : ∃ A, U (1#32 <<< i) = A := ⟨_, rfl⟩
  obtain ⟨M, hM⟩ : ∃ M, A * 125613361 % 4294967296 = M := ⟨_, rfl⟩
  have hD : M / 134217728 = (tzAt i : Int) := by rw [← hM, ← hA']; exact t1
  rw [hA'] at hA
  obtain ⟨k, hk⟩ : ∃ k, tzAt i = k := ⟨_, rfl⟩
  rw [hk] at hD hcell t2
  clear t1 t3 ht hi hk hA'
  go_enter Tryd.func23, Tryd.ntmps23
  go_wp2_with fail
  go_ret
  exact ⟨rfl, rfl⟩

theorem and_pred_U {x : BitVec 32} {i : Nat} (h : IsLow x i) : bits .and .u32 (U x) ((U x - 1) % 4294967296) = U (x ^^^ (1#32 <<< i)) := by
  have h0 : x.toNat ≠ 0 := fun e => by
    have : x = 0#32 := BitVec.eq_of_toNat_eq (by simpa using e)
    have h2 := h.2.1
    rw [this] at h2; simp at h2
  have h1 : (U x - 1) % 4294967296 = U (x - 1#32) := by
    unfold U; rw [BitVec.toNat_sub]; have := x.isLt; simp; omega
  rw [h1, and32, h.and_pred]

/-- has's iterator: the bits, from the lowest up; it writes its own variable alone. -/
theorem has_gives (x : BitVec 32) (l : List Nat) (hl : Chain x l) (b : Nat) :
    Gives Tryd.prog 22 #[.pointer (some ⟨b, 0, none⟩)] (l.map fun i : Nat => #[Value.int .i64 (i : Int)]) (fun k => k = b) Tab (fun w => Tab w ∧ w.heap[b]? = some (.cells #[.int .u32 (U x)] 23)) := by
  rintro y J Z W hJ hZ hH hY ⟨ht0, hbox0⟩ h0
  refine callsIn_of_wp Tryd.func22 rfl trivial ?_ rfl
  simp only [Tryd.ntmps22, List.size_toArray, List.length_cons, List.length_nil, Nat.reduceAdd, Nat.reduceSub, Array.replicate_succ, Array.replicate_zero, List.push_toArray, List.append_toArray, List.nil_append, List.cons_append]
  have hY' := Lib.hid hY
  have hJ' := Lib.hid hJ
  have hH' := Lib.hid hH
  have hZ' := Lib.hid hZ
  clear hY hJ hH hZ
  gi_wp2_with fail
  gi_loopw [3] (fun _ wr => ∃ (k : Nat) (z : BitVec 32), k ≤ l.length ∧ Chain z (l.drop k) ∧ wr.heap[b]? = some (.cells #[.int .u32 (U z)] 23) ∧ J k wr)
    (fun _ wr => match wr.heap[b]? with | some (.cells cs _ _) => (intOf (cs.getD 0 undef)).toNat | _ => 0)
  case atStart => exact ⟨0, x, by omega, by simpa using hl, hbox0, h0⟩
  case round =>
    obtain ⟨k, z, hk, hch, hbox, hJk⟩ := hrel
    have c1 : wr.cell? ⟨b, 0, none⟩ = some (.int .u32 (U z)) := blk_cell hbox 0 _ rfl
    have hz1 := U_nn z
    have hz2 := U_lt32 z
    by_cases hz : z = 0#32
    · subst hz
      have hnil := hch.zero
      have hkl : k = l.length := by have := congrArg List.length hnil; simp at this; omega
      have e0 : U (0#32) = 0 := rfl
      rw [e0] at c1
      clear hbox hch hnil
      gi_wp2_with fail
      go_end0
      exact ⟨⟨_, rfl⟩, .inl (by subst hkl; simpa using hJk)⟩
    · obtain ⟨i, l', hd, hlow, hch'⟩ := hch.some hz
      have hkl : k < l.length := by
        have := congrArg List.length hd; simp at this; omega
      have hki : l[k]'hkl = i := by
        have := List.drop_eq_getElem_cons hkl; rw [hd] at this; exact (List.cons.inj this).1.symm
      have hd' : l.drop (k + 1) = l' := by
        have := List.drop_eq_getElem_cons hkl; rw [hd] at this; exact (List.cons.inj this).2.symm
      obtain ⟨fn, tmps, assign, body, hy, hR⟩ := hY'.out k (by simpa using hkl) wr hJk
      simp only [List.getElem_map, hki] at hy
      have hne : (U z != 0) = true := by
        rw [bne, show (0 : Int) = U (0#32) from rfl, U_beq]; simpa using hz
      have htab := hH'.out k wr hJk
      have hR' := Lib.hid hR
      have hbox' := Lib.hid hbox
      have hlow' := Lib.hid hlow
      clear hR hbox hlow hch hd
      gi_wp2_with fail
      refine ⟨trivial, rfl, (calls_in (tz_c z i hlow'.out wr htab)).mono ?_⟩
      rintro e w' ⟨rfl, rfl⟩
      gi_wp2_with fail
      refine ⟨rfl, hR'.out.mono ?_⟩
      rintro e w3 (⟨rfl, hJ3, hk3⟩ | ⟨rfl, hZ3⟩)
      · have hbox3 : w3.heap[b]? = some (.cells #[.int .u32 (U z)] 23) := by rw [hk3 b rfl]; exact hbox'.out
        have c3 : w3.cell? ⟨b, 0, none⟩ = some (.int .u32 (U z)) := blk_cell hbox3 0 _ rfl
        have f3 : w3.frozen? ⟨b, 0, none⟩ = false := blk_frozen hbox3 0
        have hbox3' := Lib.hid hbox3
        clear hk3 hbox3
        gi_wp2_with fail
        rw [and_pred_U hlow'.out]
        go_roundw
        case rel =>
          have hk3 : Kp (fun j => j = b) w3 (w3.setCell ⟨b, 0, none⟩ (.int .u32 (U (z ^^^ 1#32 <<< i)))) := Kp.setCell (p := ⟨b, 0, none⟩) (Kp.refl (fun j => j = b) w3) (.inl rfl) _
          exact ⟨k + 1, z ^^^ 1#32 <<< i, by omega, by rw [hd']; exact hch', blk_setCell hbox3'.out 0 _, hJ'.out _ _ _ hJ3 hk3⟩
        case measure =>
          have e1 := blk_setCell hbox3'.out 0 (Value.int .u32 (U (z ^^^ 1#32 <<< i)))
          rw [e1, hbox'.out]
          have := hlow'.out.less
          simpa [intOf, U] using this
      · gi_wp2_with fail
        refine bodyPost_ret (results_none rfl _ _ _) rfl ?_
        exact ⟨⟨_, rfl⟩, .inr hZ3⟩
end Go.Proofs.YtnnopakfnenjfaaDoor
