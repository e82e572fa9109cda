/- The numbers behind next, handed over one by one. -/
import Derived.Test.YtkoajbmomipjkaaDoorOf
import Derived.Test.YtkoajbmomipjkaaDoorStillIn
namespace Go.Proofs.YtkoajbmomipjkaaDoor
open Go.RowKit
set_option linter.unusedVariables false

theorem and_pred_U {x : BitVec 64} {i : Nat} (h : IsLow x i) : bits .and .u64 (U x) ((U x - 1) % 18446744073709551616) = U (x ^^^ (1#64 <<< i)) := by
  have h0 : x.toNat ≠ 0 := fun e => by
    have : x = 0#64 := BitVec.eq_of_toNat_eq (by simpa using e)
    have h2 := h.2.1
    rw [this] at h2; simp at h2
  have h1 : (U x - 1) % 18446744073709551616 = U (x - 1#64) := by
    unfold U; rw [BitVec.toNat_sub]; have := x.isLt; simp; omega
  rw [h1, and64, h.and_pred]

def behP (B : Nat) (N m : Int) (W0 : World) (S : Nat → Prop := no) : List Pc := [.blk B [.int .u64 N, .int .u64 m] 58, .old W0 S]

set_option maxHeartbeats 4000000 in
theorem behind_gives (B : Nat) (N : Int) (x : BitVec 64) (l : List Nat) (hl : Chain x l) (W0 : World) (ht : Tab W0) (h0 : 0 ≤ N) (h1 : N ≤ 4611686018427389000) {S : Nat → Prop} (hS : ¬ S 0) :
    GivesS Tryd.prog 37 #[.pointer (some ⟨B, 0, none⟩)] (l.map fun i : Nat => #[Value.int .u64 (N + 1 + i)]) (fun _ => behP B N (U x) W0 S) (fun _ => behP B N (U x) W0 S) := by
  intro y J Z W L0 hY hJ0 H
  have hY' := Lib.hid hY
  have hJ0' := Lib.hid hJ0
  have ht' := Lib.hid ht
  have hS' := Lib.hid hS
  have hl' := Lib.hid hl
  clear hY hJ0 ht hl hS
  refine callsIn_of_wp Tryd.func37 rfl trivial ?_ rfl
  simp only [Tryd.ntmps37, List.size_toArray, List.length_cons, List.length_nil, Nat.reduceAdd, Nat.reduceSub, Array.replicate_succ, Array.replicate_zero, List.push_toArray, List.append_toArray, List.nil_append, List.cons_append]
  have hH := Lib.hid H
  simp only [behP, List.cons_append, List.nil_append] at H
  have c1 := H.cell (o := 1) (.here _ _) rfl
  clear H
  gi_wp2_with (first | refine wpIn_label ?_ | refine scope_in ?_)
  clear c1
  gi_loopw [3] (fun s V => ∃ (k : Nat) (z : BitVec 64) (L : List Pc), k ≤ l.length ∧ Chain z (l.drop k) ∧ s = .int .u64 (U z) ∧ J k L ∧ SL V (behP B N (U x) W0 S ++ L)) (fun s _ => (intOf s).toNat)
  case atStart => exact ⟨0, x, L0, by omega, by simpa using hl'.out, rfl, by simpa using hJ0'.out, hH.out⟩
  case round =>
    clear hH
    obtain ⟨k, z, L, hk, hch, rfl, hJ, H⟩ := hrel
    have hH := Lib.hid H
    have hz1 := U_nn z
    have hz2 := U_lt64 z
    by_cases hz : z = 0#64
    · subst hz
      have hnil := hch.zero
      have hkl : k = l.length := by have := congrArg List.length hnil; simp at this; omega
      have e0 : U (0#64) = 0 := rfl
      have hne : (U (0#64) != 0) = false := rfl
      have hJ' := Lib.hid hJ
      clear hch hnil H hJ
      gi_wp2_with fail
      repeat (first | rw [Exit.noGoto_normal] | gi_step)
      refine bodyPost_end (results_none rfl _ _ _) rfl ⟨⟨_, rfl⟩, .inl ⟨L, ?_, hH.out⟩⟩
      have := hJ'.out
      rw [hkl] at this
      simpa using this
    · obtain ⟨i, l', hd, hlow, hch'⟩ := hch.some hz
      have hkl : k < l.length := by
        have := congrArg List.length hd; simp at this; omega
      have hki : l[k]'hkl = i := by
        have := List.drop_eq_getElem_cons hkl; rw [hd] at this; exact (List.cons.inj this).1.symm
      have hd' : l.drop (k + 1) = l' := by
        have := List.drop_eq_getElem_cons hkl; rw [hd] at this; exact (List.cons.inj this).2.symm
      obtain ⟨fn, tmps, assign, body, hy, hR⟩ := hY'.out k (by simpa using hkl) (wr.drew) L hJ (by exact hH.out.drew)
      simp only [List.getElem_map, hki] at hy
      have hne : (U z != 0) = true := by
        rw [bne, show (0 : Int) = U (0#64) from rfl, U_beq]; simpa using hz
      have htab : Tab wr := ht'.out.kept (H.all (.old W0 S) (by simp [behP])) hS'.out
      have hi64 := hlow.1
      have u1 : IntKind.u64.wrap (N + 1) = N + 1 := by rw [IntKind.wrap_u64]; omega
      have u2 : IntKind.u64.wrap (i : Int) = i := by rw [IntKind.wrap_u64]; omega
      have u3 : IntKind.u64.wrap (N + 1 + i) = N + 1 + i := by rw [IntKind.wrap_u64]; omega
      simp only [behP, List.cons_append, List.nil_append] at H
      have c0 := H.cell (o := 0) (.here _ _) rfl
      have hR' := Lib.hid hR
      have hlow' := Lib.hid hlow
      have htz := Lib.hid (fun V (h : Tab V) => tz_c z i hlow V h)
      clear hR hlow hch hd H hz1 hz2 hz hJ
      gi_wp2_with fail
      refine wpIn_region_still_tail 8 (by kernel_rfl) (by kernel_rfl) ?_
      simp only [List.take_succ_cons, List.take_zero, List.drop_succ_cons, List.drop_zero]
      repeat still_step
      still_call ((htz.out _ (htab.no (Kp.refl no wr).drew)).mono fun _ _ h => ⟨h.1, h.2.symm⟩)
      repeat still_step
      refine wpStill_nil ?_
      generalize wr.drew = w4 at *
      gi_wp2_with fail
      refine ⟨rfl, hR'.out.mono ?_⟩
      rintro e w3 (⟨rfl, L', hJ3, H3⟩ | ⟨rfl, L', hZ3, H3⟩)
      · have H3' := Lib.hid H3
        have hJ3' := Lib.hid hJ3
        have hzz : (U z - 1) % 18446744073709551616 = IntKind.u64.wrap (U z - 1) := by rw [IntKind.wrap_u64]
        have hap := and_pred_U hlow'.out
        rw [hzz] at hap
        clear H3 hJ3 hy hzz
        gi_wp2_with fail
        go_roundw
        case rel => exact ⟨k + 1, _, L', by omega, by rw [hd']; exact hch', rfl, hJ3'.out, H3'.out⟩
        case measure =>
          have h9 := hlow'.out.less
          simp only [intOf]
          unfold U
          generalize (z ^^^ 1#64 <<< i).toNat = q1 at *
          generalize z.toNat = q2 at *
          omega
      · gi_wp2_with fail
        repeat (first | rw [Exit.noGoto_ret] | gi_step)
        refine bodyPost_ret (results_none rfl _ _ _) rfl ?_
        exact ⟨⟨_, rfl⟩, .inr ⟨_, _, hZ3, H3⟩⟩
end Go.Proofs.YtkoajbmomipjkaaDoor
