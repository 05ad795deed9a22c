/-
  Walks of the statements' own functions of layer 13: spoil.
-/
import Derived.Test.YtnldkbgbgngjjaaDoorApp
import Derived.Test.YtnldkbgbgngjjaaDoorLaw13
namespace Go.Proofs.YtnldkbgbgngjjaaDoor
open Go.RowKit Mem App
set_option linter.unusedVariables false

theorem row_slice {w : World} {e : TypeId} {v : Value} {n : Nat} (h : RowOf w e v n) : ∃ A c, v = .slice A n c := by
  rcases h with ⟨rfl, rfl⟩ | ⟨g, cap, cur, rfl, _⟩
  · exact ⟨_, _, rfl⟩
  · exact ⟨_, _, rfl⟩
theorem row_at {w : World} {e : TypeId} {A : Option Addr} {n c k : Nat} (h : RowOf w e (.slice A n c) n) (hk : k < n) :
    ∃ g cur, A = some ⟨g, 0, none⟩ ∧ w.heap[g]? = some (.cells cur e (0, 0)) ∧ (∃ u, w.cell? ⟨g, k, none⟩ = some u) ∧ w.frozen? ⟨g, k, none⟩ = false := by
  rcases h with ⟨h, rfl⟩ | ⟨g, cap, cur, h, hg, hn, hc, hs⟩
  · omega
  · injection h with h1 _ h2
    refine ⟨g, cur, h1, hg, ⟨cur[k]'(by omega), ?_⟩, frozen_of_row w g k cur e hg⟩
    rw [cell_of_row w g k cur e (0, 0) hg, Array.getElem?_eq_getElem (by omega)]
theorem row_put {w : World} {e : TypeId} {A : Option Addr} {n c k g : Nat} (h : RowOf w e (.slice A n c) n) (hA : A = some ⟨g, 0, none⟩) (u : Value) : RowOf (w.setCell ⟨g, k, none⟩ u) e (.slice A n c) n := by
  subst hA
  rcases h with ⟨h, rfl⟩ | ⟨g', cap, cur, h, hg, hn, hc, hs⟩
  · cases h
  · injection h with h1 _ h2
    injection h1 with h1
    injection h1 with h1
    subst h1; subst h2
    exact .inr ⟨g, c, _, rfl, Mem.Blk.put hg k u, hn, hc, by simpa using hs⟩

set_option maxRecDepth 100000 in
set_option maxHeartbeats 4000000 in
theorem spoil_any (v : Value) (n : Nat) (w : World) (hv : RowOf w 9 v n) (hn : n ≤ 1099511627776) :
    Calls Tryd.prog 12 #[v] w fun e w' => e = .returned (.tuple #[]) ∧ w.grownBy w' v.ownBlock := by
  obtain ⟨A, c, rfl⟩ := row_slice hv
  obtain ⟨i0, hi0, hz0, hz1, hz2⟩ := info_parts info_str
  go_enter Tryd.func12, Tryd.ntmps12
  go_wp2
  go_loopw [7] (fun c7 wr => ∃ k : Nat, k ≤ n ∧ c7 = .int .i64 k ∧ RowOf wr 9 (.slice A n c) n ∧ w.grownBy wr (Value.slice A n c).ownBlock) (fun c7 _ => n - (intOf c7).toNat)
  case atStart => exact ⟨0, by omega, rfl, hv, grown_refl _ _⟩
  case round =>
    obtain ⟨k, hk, rfl, hr, hg⟩ := hrel
    by_cases hlt : k < n
    · obtain ⟨g, cur, hA, hh, ⟨u, hcell⟩, hfz⟩ := row_at hr hlt
      have hr2 := row_put (k := k) hr hA (.string ⟨#[33]⟩)
      have hg2 : w.grownBy (wr.setCell ⟨g, k, none⟩ (.string ⟨#[33]⟩)) (Value.slice A n c).ownBlock := by subst hA; exact grown_put hg k _
      subst hA
      clear hh
      go_wp2
      go_roundw
      case rel => exact ⟨k + 1, by omega, by go_num, hr2, hg2⟩
      case measure => simp [intOf]; omega
    · clear hv
      obtain ⟨wo, rfl⟩ : ∃ wo : World, wo = wr := ⟨_, rfl⟩
      go_wp2
      go_loopw [3, 4] (fun c3 c4 wr => ∃ q : Nat, q ≤ 20 ∧ c4 = .int .i64 q ∧ RowOf wr 9 c3 (n + q) ∧ RowOf wr 9 (.slice A n c) n ∧ w.grownBy wr (Value.slice A n c).ownBlock ∧
        (c3.ownBlock = (Value.slice A n c).ownBlock ∨ ∀ g, c3.ownBlock = some g → w.heap.size ≤ g)) (fun _ c4 _ => 20 - (intOf c4).toNat)
      case atStart => exact ⟨0, by omega, rfl, hr, hr, hg, .inl rfl⟩
      case round =>
        obtain ⟨q, hq, rfl, hr3, hr0, hg3, hb3⟩ := hrel
        by_cases hlq : q < 20
        · have hsz := hg3.size
          have hR3 : RowOf (wr.alloc (.cells #[.string ⟨#[63]⟩] 9)) 9 u3 (n + q) := hr3.keep fun g hgb => Below.heap_alloc wr _ g (hr3.lt hgb)
          have hR0 : RowOf (wr.alloc (.cells #[.string ⟨#[63]⟩] 9)) 9 (.slice A n c) n := hr0.keep fun g hgb => Below.heap_alloc wr _ g (hr0.lt hgb)
          have hG3 := grown_alloc hg3 (.cells #[.string ⟨#[63]⟩] 9)
          go_wp2_with (at_builtin; refine wpList_app _ rfl (.tmp 19) (.tmp 20) _ rfl 9 i0 _ 16 Tryd.underlying22 hi0 hz0 hz1 hz2 rfl u3 (n + q) rfl hR3 ⟨wr.heap.size, 0, none⟩ 1 1 [.string ⟨#[63]⟩] rfl rfl (one_new _ _ _) (one_cell _ rfl) (by unfold maxLen; omega) (by omega) ?_; intro v9 w9 hout)
          have h1 := hout.row hR3
          have h2 := hout.other hR3 hR0
          have h3 := grown_join hG3 hout.grown hb3
          have h4 : v9.ownBlock = (Value.slice A n c).ownBlock ∨ ∀ g, v9.ownBlock = some g → w.heap.size ≤ g := by
            rcases hout.block with e | e
            · rw [e]; exact hb3
            · exact .inr fun g hgb => by
                rw [e] at hgb
                injection hgb with hgb
                rw [← hgb]
                simp
                omega
          clear hout hR3 hR0 hG3
          go_wp2
          go_roundw
          case rel => exact ⟨q + 1, by omega, by go_num, h1, h2, h3, h4⟩
          case measure => simp [intOf]; omega
        · clear hr3 hb3 hr hg
          have ht := hg3.size
          go_wp2_with (at_builtin; refine wpList_app_zeros _ rfl (.tmp 22) (.const (.int .i64 70)) _ _ rfl 9 i0 _ 16 Tryd.underlying22 Tryd.underlying3 hi0 hz0 hz1 hz2 rfl rfl rfl (.slice A n c) n rfl hr0 70 rfl (by omega) (by unfold maxLen; omega) (by omega) ?_; intro v9 w9 hout)
          have h1 := hout.row hr0
          have h3 := grown_join hg3 hout.grown (.inl rfl)
          have h4 := hout.block
          clear hout hr0
          obtain ⟨N, hN⟩ : ∃ N, n + 70 = N := ⟨_, rfl⟩
          rw [hN] at h1
          have hN0 : 0 < N := by omega
          have hN1 : N ≤ 1099511627846 := by omega
          clear hN
          obtain ⟨A9, c9, rfl⟩ := row_slice h1
          obtain ⟨g9, cur9, hA9, hh9, ⟨x9, hc9⟩, hf9⟩ := row_at (k := 0) h1 (by omega)
          subst hA9
          have h5 : w.grownBy (w9.setCell ⟨g9, 0, none⟩ (.string ⟨#[63]⟩)) (Value.slice A n c).ownBlock := by
            rcases h4 with e | e
            · have e' : (Value.slice A n c).ownBlock = some g9 := by rw [← e]; rfl
              rw [e'] at h3 ⊢
              exact grown_put h3 0 _
            · have e' : g9 = wr.heap.size := by injection e
              exact grown_new h3 (by show w.heap.size ≤ g9; omega) _
          clear hh9 h1 h4
          go_simp
          go_wp2
          go_end0
          exact ⟨rfl, h5⟩
end Go.Proofs.YtnldkbgbgngjjaaDoor
