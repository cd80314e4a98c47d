
/- slices.SortFunc on at most eight points. -/
import Derived.Test.YthlkpopmoodmgaaSort
namespace Go.Proofs.Ythlkpopmoodmgaa
open Go.RowKit

set_option maxRecDepth 100000 in
set_option maxHeartbeats 4000000 in
theorem bitsLen_any (n : Nat) (w : World) (hn : n ≤ 8) :
    Calls Try.prog 123 #[.int .u64 (n : Int)] w fun e w' => ∃ k : Int, e = .returned (.int .i64 k) ∧ w = w' := by
  have e : n = 0 ∨ n = 1 ∨ n = 2 ∨ n = 3 ∨ n = 4 ∨ n = 5 ∨ n = 6 ∨ n = 7 ∨ n = 8 := by omega
  rcases e with rfl | rfl | rfl | rfl | rfl | rfl | rfl | rfl | rfl
  all_goals
    go_enter Try.func123, Try.ntmps123
    go_wp2
    go_ret
    exact ⟨_, rfl, rfl⟩

set_option maxRecDepth 100000 in
set_option maxHeartbeats 4000000 in
theorem pdq_any (g n c base : Nat) (k : Int) (zs : List (Nat × Nat)) (w : World) (hn : n ≤ 12) (hl : zs.length = n) (ho : w.ownsRow base 72 1 (.slice (some ⟨g, 0, none⟩) n c) n (flat cxC zs)) :
    Calls Try.prog 122 #[.slice (some ⟨g, 0, none⟩) n c, .int .i64 0, .int .i64 (n : Int), .int .i64 k, .func (.func 96) #[] #[]] w fun e w' => e = .returned (.tuple #[]) ∧ ∃ zs' : List (Nat × Nat), zs'.length = n ∧ w'.ownsRow base 72 1 (.slice (some ⟨g, 0, none⟩) n c) n (flat cxC zs') ∧ Below base w w' := by
  have h12 : (n : Int) ≤ 12 := by omega
  have HO := Lib.hid ho
  clear ho
  go_enter Try.func122, Try.ntmps122
  go_wp2
  go_loopw [1, 2] (fun a b wr => a = .int .i64 0 ∧ b = .int .i64 (n : Int) ∧ wr = w) (fun _ _ _ => 0)
  case atStart => exact ⟨rfl, rfl, rfl⟩
  case round =>
    obtain ⟨rfl, rfl, rfl⟩ := hrel
    go_wp2_with fail
    refine (insSort_any g n c base zs _ hn hl HO.out).mono ?_
    rintro e w1 ⟨rfl, zs', hl', ho', hb'⟩
    have HO' := Lib.hid ho'
    clear ho'
    go_wp2
    refine bodyPost_ret (results_none rfl _ _ _) rfl ?_
    exact ⟨rfl, zs', hl', HO'.out, hb'⟩

theorem sortFunc_any (g n c base : Nat) (zs : List (Nat × Nat)) (w : World) (hn : n ≤ 8) (hl : zs.length = n) (ho : w.ownsRow base 72 1 (.slice (some ⟨g, 0, none⟩) n c) n (flat cxC zs)) :
    Calls Try.prog 95 #[.slice (some ⟨g, 0, none⟩) n c, .func (.func 96) #[] #[]] w fun e w' => e = .returned (.tuple #[]) ∧ ∃ zs' : List (Nat × Nat), zs'.length = n ∧ w'.ownsRow base 72 1 (.slice (some ⟨g, 0, none⟩) n c) n (flat cxC zs') ∧ Below base w w' := by
  have HO := Lib.hid ho
  clear ho
  have hw : IntKind.u64.wrap (n : Int) = (n : Int) := by
    have : ∀ n : Nat, n < 9 → IntKind.u64.wrap (n : Int) = (n : Int) := by decide
    exact this n (by omega)
  go_enter Try.func95, Try.ntmps95
  go_wp2_with fail
  refine (bitsLen_any n _ hn).mono ?_
  rintro e w' ⟨k, rfl, rfl⟩
  go_wp2_with fail
  refine (pdq_any g n c base k zs _ (by omega) hl HO.out).mono ?_
  rintro e w1 ⟨rfl, zs', hl', ho', hb'⟩
  have HO' := Lib.hid ho'
  clear ho'
  go_wp2
  go_end0
  exact ⟨rfl, zs', hl', HO'.out, hb'⟩
end Go.Proofs.Ythlkpopmoodmgaa
