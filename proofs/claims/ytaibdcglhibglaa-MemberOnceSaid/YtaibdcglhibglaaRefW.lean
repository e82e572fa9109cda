/- The walk of the reference's New. -/
import Derived.Test.YtaibdcglhibglaaRefT
namespace Go.Proofs.Ytaibdcglhibglaa
open Go.RowKit
set_option linter.unusedVariables false

/-- The state at first. -/
def St0 (self disp : Int) (n : Nat) : St := ⟨self, n, disp, 0, 0, rangeI n, 0, 0, true, fun _ => false, 0⟩

theorem refNew_no (self nodes disp : Int) (w : World) (h : nodes < 1 ∨ 64 < nodes ∨ self < 0 ∨ nodes ≤ self ∨ disp < 0 ∨ nodes ≤ disp) :
    Calls Try.prog 18 #[.int .i64 self, .int .i64 nodes, .int .i64 disp] w fun e w' => e = .returned (.tuple #[.pointer none, .int .i64 240]) ∧ w = w' := by
  by_cases h1 : nodes < 1
  · clear h
    go_enter Try.func18, Try.ntmps18
    go_wp2_with fail
    go_ret2
    exact ⟨rfl, rfl⟩
  have h1' : 1 ≤ nodes := by omega
  by_cases h2 : 64 < nodes
  · clear h h1
    go_enter Try.func18, Try.ntmps18
    go_wp2_with fail
    go_ret2
    exact ⟨rfl, rfl⟩
  have h2' : nodes ≤ 64 := by omega
  by_cases h3 : self < 0
  · clear h h1 h2
    go_enter Try.func18, Try.ntmps18
    go_wp2_with fail
    go_ret2
    exact ⟨rfl, rfl⟩
  have h3' : 0 ≤ self := by omega
  by_cases h4 : nodes ≤ self
  · clear h h1 h2 h3
    go_enter Try.func18, Try.ntmps18
    go_wp2_with fail
    go_ret2
    exact ⟨rfl, rfl⟩
  have h4' : self < nodes := by omega
  by_cases h5 : disp < 0
  · clear h h1 h2 h3 h4
    go_enter Try.func18, Try.ntmps18
    go_wp2_with fail
    go_ret2
    exact ⟨rfl, rfl⟩
  have h5' : 0 ≤ disp := by omega
  have h6 : nodes ≤ disp := by omega
  clear h h1 h2 h3 h4 h5
  go_enter Try.func18, Try.ntmps18
  go_wp2_with fail
  go_ret2
  exact ⟨rfl, rfl⟩

set_option maxHeartbeats 8000000 in
theorem refNew_yes (self disp : Int) (n : Nat) {w : World} {L : List Pc} (H : SL w L) (h1 : 1 ≤ n) (h2 : n ≤ 64) (h3 : 0 ≤ self) (h4 : 0 ≤ disp) (h5 : self < n) (h6 : disp < n) :
    Calls Try.prog 18 #[.int .i64 self, .int .i64 n, .int .i64 disp] w fun e w' => ∃ p a c b, e = .returned (.tuple #[.pointer (some ⟨p, 0, none⟩), .int .i64 0]) ∧
      SL w' (RS p a c b (St0 self disp n) L) := by
  have H1 := (H.alloc [.int .i64 self, .int .i64 n, .int .i64 disp, .int .u32 0, .int .i64 0, .slice none 0 0, .int .u32 0, .int .i64 0, .bool false, .slice none 0 0, .int .i64 0] 68).pure (q := .own 3 1 (.slice none 0 0) 0 []) (OwnK.nil _ _ _ _) (fun b h => by cases h)
  have hH := Lib.hid H1
  have hn2 : (n : Int) ≤ 64 := by omega
  clear H H1
  go_enter Try.func18, Try.ntmps18
  go_wp2_with fail
  generalize w.alloc (.cells #[.int .i64 self, .int .i64 n, .int .i64 disp, .int .u32 0, .int .i64 0, .slice none 0 0, .int .u32 0, .int .i64 0, .bool false, .slice none 0 0, .int .i64 0] 68) = w2 at *
  generalize w.heap.size = p at *
  clear h3 h4 h5 h6
  go_loopw [9] (fun t V => ∃ (k : Nat) (a : Option Addr) (c : Nat), k ≤ n ∧ t = .int .i64 (k : Int) ∧ SL V (.own 3 1 (.slice a k c) k (iv (rangeI k)) :: refB p self n disp 0 0 (.slice a k c) 0 0 false (.slice none 0 0) 0 :: L)) (fun t _ => n - (intOf t).toNat)
  case atStart => exact ⟨0, none, 0, by omega, rfl, hH.out⟩
  case round =>
    clear hH
    obtain ⟨k, a, c, hk, rfl, H⟩ := hrel
    by_cases hkn : k < n
    · have hH := Lib.hid H
      have p5 := H.cell (b := p) (o := 5) (by first | exact .here _ _ | exact .there (.here _ _) | exact .there (.there (.here _ _)) | exact .there (.there (.there (.here _ _))) | exact .there (.there (.there (.there (.here _ _)))) | exact .there (.there (.there (.there (.there (.here _ _))))) | exact .there (.there (.there (.there (.there (.there (.here _ _)))))) | exact .there (.there (.there (.there (.there (.there (.there (.here _ _))))))) | exact .there (.there (.there (.there (.there (.there (.there (.there (.here _ _)))))))) | exact .there (.there (.there (.there (.there (.there (.there (.there (.there (.here _ _))))))))) | exact .there (.there (.there (.there (.there (.there (.there (.there (.there (.there (.here _ _)))))))))) | exact .there (.there (.there (.there (.there (.there (.there (.there (.there (.there (.there (.here _ _))))))))))) | exact .there (.there (.there (.there (.there (.there (.there (.there (.there (.there (.there (.there (.here _ _)))))))))))) | exact .there (.there (.there (.there (.there (.there (.there (.there (.there (.there (.there (.there (.there (.here _ _)))))))))))))) rfl
      clear H
      go_wp2_with (
        at_builtin
        refine sl_app (hH.out.alloc [.int .i64 k] 3) rfl _ _ _ rfl elemI _ rfl (.there (.here _ _)) [.int .i64 k] rfl rfl (rd_newK _ _ _) (by simp [Value.oneCell']) (by simp only [maxLen]; omega) (by omega) (fun h => by cases h) ?_
        intro v' w3 H3 hnil
        obtain ⟨a', c', rfl, -⟩ := OwnK.slice H3.head
        have q5 := H3.cell (b := p) (o := 5) (by first | exact .here _ _ | exact .there (.here _ _) | exact .there (.there (.here _ _)) | exact .there (.there (.there (.here _ _))) | exact .there (.there (.there (.there (.here _ _)))) | exact .there (.there (.there (.there (.there (.here _ _))))) | exact .there (.there (.there (.there (.there (.there (.here _ _)))))) | exact .there (.there (.there (.there (.there (.there (.there (.here _ _))))))) | exact .there (.there (.there (.there (.there (.there (.there (.there (.here _ _)))))))) | exact .there (.there (.there (.there (.there (.there (.there (.there (.there (.here _ _))))))))) | exact .there (.there (.there (.there (.there (.there (.there (.there (.there (.there (.here _ _)))))))))) | exact .there (.there (.there (.there (.there (.there (.there (.there (.there (.there (.there (.here _ _))))))))))) | exact .there (.there (.there (.there (.there (.there (.there (.there (.there (.there (.there (.there (.here _ _)))))))))))) | exact .there (.there (.there (.there (.there (.there (.there (.there (.there (.there (.there (.there (.there (.here _ _)))))))))))))) rfl
        have fq := H3.free (b := p) (by first | exact .here _ _ | exact .there (.here _ _) | exact .there (.there (.here _ _)) | exact .there (.there (.there (.here _ _))) | exact .there (.there (.there (.there (.here _ _)))) | exact .there (.there (.there (.there (.there (.here _ _))))) | exact .there (.there (.there (.there (.there (.there (.here _ _)))))) | exact .there (.there (.there (.there (.there (.there (.there (.here _ _))))))) | exact .there (.there (.there (.there (.there (.there (.there (.there (.here _ _)))))))) | exact .there (.there (.there (.there (.there (.there (.there (.there (.there (.here _ _))))))))) | exact .there (.there (.there (.there (.there (.there (.there (.there (.there (.there (.here _ _)))))))))) | exact .there (.there (.there (.there (.there (.there (.there (.there (.there (.there (.there (.here _ _))))))))))) | exact .there (.there (.there (.there (.there (.there (.there (.there (.there (.there (.there (.there (.here _ _)))))))))))) | exact .there (.there (.there (.there (.there (.there (.there (.there (.there (.there (.there (.there (.there (.here _ _)))))))))))))) 5
        have H4 := Lib.hid ((H3.re (L' := refB p self n disp 0 0 (.slice a k c) 0 0 false (.slice none 0 0) 0 :: .own 3 1 (.slice a' (k + 1) c') (k + 1) (iv (rangeI k) ++ [.int .i64 k]) :: L) (.step (.there (.there (.here _ _))) (.step (.here _ _) (.drop (.same _))))).setCell 5 (.slice a' (k + 1) c'))
        clear H3 hnil)
      go_roundw
      case rel =>
        refine ⟨k + 1, a', c', by omega, by go_num, ?_⟩
        rw [rangeI_succ, iv_append]
        exact H4.out.pull (.there (.here _ _))
      case measure => (simp [intOf]; try omega)
    · obtain rfl : k = n := by omega
      have hne : ¬ (Value.slice a k c = .slice none 0 0 ∧ k = 0 ∧ iv (rangeI k) = []) := by rintro ⟨-, h, -⟩; omega
      obtain ⟨g, cp, hgv, -⟩ := (OwnK.form (show OwnK wr 0 3 1 (.slice a k c) k (iv (rangeI k)) from H.ownOf (.here _ _))).resolve_left hne
      cases hgv
      have H2 := H.re (L' := refB p self k disp 0 0 (.slice (some ⟨g, 0, none⟩) k c) 0 0 false (.slice none 0 0) 0 :: .own 3 1 (.slice (some ⟨g, 0, none⟩) k c) k (iv (rangeI k)) :: L) (.step (.there (.here _ _)) (.same _))
      have had := refAdopt_c k H2 ⟨h1, h2⟩ 0 0 g 0 c (rangeI k) (by rw [rangeI_length]; omega)
        (fun V h => (OwnK.rdI (show OwnK V 0 3 1 _ _ (iv (rangeI k)) from h.ownOf (.here _ _))).2.2)
      rw [rangeI_length, heard_in (by omega) (by omega)] at had
      have had' := Lib.hid had
      have p3 := H2.cell (b := p) (o := 3) (by first | exact .here _ _ | exact .there (.here _ _) | exact .there (.there (.here _ _)) | exact .there (.there (.there (.here _ _))) | exact .there (.there (.there (.there (.here _ _)))) | exact .there (.there (.there (.there (.there (.here _ _))))) | exact .there (.there (.there (.there (.there (.there (.here _ _)))))) | exact .there (.there (.there (.there (.there (.there (.there (.here _ _))))))) | exact .there (.there (.there (.there (.there (.there (.there (.there (.here _ _)))))))) | exact .there (.there (.there (.there (.there (.there (.there (.there (.there (.here _ _))))))))) | exact .there (.there (.there (.there (.there (.there (.there (.there (.there (.there (.here _ _)))))))))) | exact .there (.there (.there (.there (.there (.there (.there (.there (.there (.there (.there (.here _ _))))))))))) | exact .there (.there (.there (.there (.there (.there (.there (.there (.there (.there (.there (.there (.here _ _)))))))))))) | exact .there (.there (.there (.there (.there (.there (.there (.there (.there (.there (.there (.there (.there (.here _ _)))))))))))))) rfl
      have p4 := H2.cell (b := p) (o := 4) (by first | exact .here _ _ | exact .there (.here _ _) | exact .there (.there (.here _ _)) | exact .there (.there (.there (.here _ _))) | exact .there (.there (.there (.there (.here _ _)))) | exact .there (.there (.there (.there (.there (.here _ _))))) | exact .there (.there (.there (.there (.there (.there (.here _ _)))))) | exact .there (.there (.there (.there (.there (.there (.there (.here _ _))))))) | exact .there (.there (.there (.there (.there (.there (.there (.there (.here _ _)))))))) | exact .there (.there (.there (.there (.there (.there (.there (.there (.there (.here _ _))))))))) | exact .there (.there (.there (.there (.there (.there (.there (.there (.there (.there (.here _ _)))))))))) | exact .there (.there (.there (.there (.there (.there (.there (.there (.there (.there (.there (.here _ _))))))))))) | exact .there (.there (.there (.there (.there (.there (.there (.there (.there (.there (.there (.there (.here _ _)))))))))))) | exact .there (.there (.there (.there (.there (.there (.there (.there (.there (.there (.there (.there (.there (.here _ _)))))))))))))) rfl
      have p5 := H2.cell (b := p) (o := 5) (by first | exact .here _ _ | exact .there (.here _ _) | exact .there (.there (.here _ _)) | exact .there (.there (.there (.here _ _))) | exact .there (.there (.there (.there (.here _ _)))) | exact .there (.there (.there (.there (.there (.here _ _))))) | exact .there (.there (.there (.there (.there (.there (.here _ _)))))) | exact .there (.there (.there (.there (.there (.there (.there (.here _ _))))))) | exact .there (.there (.there (.there (.there (.there (.there (.there (.here _ _)))))))) | exact .there (.there (.there (.there (.there (.there (.there (.there (.there (.here _ _))))))))) | exact .there (.there (.there (.there (.there (.there (.there (.there (.there (.there (.here _ _)))))))))) | exact .there (.there (.there (.there (.there (.there (.there (.there (.there (.there (.there (.here _ _))))))))))) | exact .there (.there (.there (.there (.there (.there (.there (.there (.there (.there (.there (.there (.here _ _)))))))))))) | exact .there (.there (.there (.there (.there (.there (.there (.there (.there (.there (.there (.there (.there (.here _ _)))))))))))))) rfl
      clear H had hne hkn H2
      go_wp2_with fail
      refine had'.out.mono ?_
      rintro e w4 ⟨⟨v, rfl⟩, a', c', b', H4⟩
      have hH4 := Lib.hid H4
      clear had' H4
      go_wp2_with fail
      go_ret2
      refine ⟨p, a', c', b', rfl, ?_⟩
      unfold RS St0
      dsimp only
      rw [rangeI_length, Int.toNat_natCast]
      exact hH4.out.re (.step (.here _ _) (.step (.here _ _) (.step (.here _ _) (.drop (.same _)))))
end Go.Proofs.Ytaibdcglhibglaa
