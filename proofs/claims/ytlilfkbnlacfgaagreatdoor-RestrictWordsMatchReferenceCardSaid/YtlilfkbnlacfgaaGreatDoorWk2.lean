/-
  A gap's number, by the program and by the reference, walked.
-/
import Derived.Test.YtlilfkbnlacfgaaGreatDoorWk1
namespace Go.W14
open Go Go.Abs Go.Proofs Go.RowKit Go.Lib

/-- The words behind a slice's value. -/
def WordsAt (w : World) (v : Value) (zs : List Wd) : Prop := (zs = [] ∧ ∃ a c, v = .slice a 0 c) ∨ ∃ b off c, v = .slice (some ⟨b, off, none⟩) zs.length c ∧ Row w b off zs
theorem WordsAt.keep {w w' : World} {v : Value} {zs : List Wd} (h : WordsAt w v zs) (hk : Keeps w w') : WordsAt w' v zs := by
  rcases h with h | ⟨b, off, c, h1, h2⟩
  · exact .inl h
  · exact .inr ⟨b, off, c, h1, h2.keep hk⟩
theorem WordsAt.form {w : World} {v : Value} {zs : List Wd} (h : WordsAt w v zs) : ∃ a c, v = .slice a zs.length c := by
  rcases h with ⟨rfl, a, c, h⟩ | ⟨b, off, c, h, _⟩
  · exact ⟨a, c, h⟩
  · exact ⟨_, c, h⟩

theorem at30_none (a : Option Addr) (c : Nat) (f : Value) (w : World) :
    Calls Tryz.prog 30 #[.slice a 0 c, f] w fun e w' => e = .returned (.int .i64 (-1)) ∧ Keeps w w' := by
  go_enter Tryz.func30, Tryz.ntmps30
  go_wp2
  go_loopg [5, 8] 0 (fun _ _ s8 wr => s8 = .int .i64 0 ∧ Aside (Keeps w wr))
  case atStart => exact ⟨rfl, Keeps.refl w⟩
  case round =>
    obtain ⟨rfl, BW⟩ := hrel
    go_wp2
    go_ret
    exact ⟨rfl, BW.out⟩

theorem at30_any (at_ : Int) (B0 : Nat) (v : Value) (zs : List Wd) (w : World) (hcell : w.cell? ⟨B0, 0, none⟩ = some (.int .i64 at_)) (hbig : zs.length ≤ 9223372036854775807) (hc : WordsAt w v zs) :
    Calls Tryz.prog 30 #[v, .func (.func 31) #[] #[.pointer (some ⟨B0, 0, none⟩)]] w fun e w' => e = .returned (.int .i64 (idx at_ zs)) ∧ Keeps w w' := by
  rcases hc with ⟨rfl, a, c, rfl⟩ | ⟨b, off, c, rfl, h2⟩
  · exact at30_none a c _ w
  · exact at30 at_ B0 b off c zs w hcell hbig h2

def num (at_ en : Int) (zs : List Wd) : Int := if firstAt at_ zs < zs.length then (firstAt at_ zs : Int) else if at_ = en then (zs.length : Int) else -1
def fine (at_ en : Int) (zs : List Wd) : Bool := if firstAt at_ zs < zs.length then true else at_ == en

set_option maxHeartbeats 1000000 in
/-- restrict.gap -/
theorem gap14 (at_ en : Int) (v r s : Value) (zs : List Wd) (w : World) (hbig : zs.length ≤ 9223372036854775807) (hc : WordsAt w v zs) :
    Calls Tryz.prog 14 #[.agg #[v, r, .int .i64 en, s], .int .i64 at_] w fun e w' => e = .returned (.tuple #[.int .i64 (firstAt at_ zs), .bool (fine at_ en zs)]) ∧ Keeps w w' := by
  have hmf : ∀ (fn : Fn) (first cap : Array Value) (w : World), (Instr.makeFunc fn first cap).run Tryz.prog w = .ok (.func fn first cap) w := fun _ _ _ _ => rfl
  have k2 : Keeps w ((w.alloc (.cells #[v, r, .int .i64 en, s] 24)).alloc (.cells #[.int .i64 at_] 3)) := ((Keeps.refl w).alloc _ _).alloc _ _
  have hcon := at30_any at_ (w.heap.size + 1) v zs ((w.alloc (.cells #[v, r, .int .i64 en, s] 24)).alloc (.cells #[.int .i64 at_] 3)) (by simp) hbig (hc.keep k2)
  obtain ⟨a, c, rfl⟩ := hc.form
  have hle := firstAt_le at_ zs
  clear hc
  go_enter Tryz.func14, Tryz.ntmps14
  go_wp2_with (go_at_call 30; refine hcon.mono ?_; rintro e w' ⟨rfl, hb'⟩)
  · have hlt : idx at_ zs < 0 := by assumption
    have hn : ¬ firstAt at_ zs < zs.length := fun h => by
      simp only [idx, if_pos h] at hlt; omega
    have he : firstAt at_ zs = zs.length := by omega
    have c0 : w'.cell? ⟨w.heap.size, 0, none⟩ = some (.slice a zs.length c) := by rw [hb'.cell (by simp <;> omega)]; simp
    have c2 : w'.cell? ⟨w.heap.size, 2, none⟩ = some (.int .i64 en) := by rw [hb'.cell (by simp <;> omega)]; simp
    have c3 : w'.cell? ⟨w.heap.size + 1, 0, none⟩ = some (.int .i64 at_) := by rw [hb'.cell (by simp <;> omega)]; simp
    have kk := k2.trans hb'
    clear hb' k2 hcon
    go_region
    all_goals go_wp2
    all_goals go_ret2
    all_goals refine ⟨?_, by repeat (first | exact kk | apply Keeps.drew)⟩
    all_goals simp only [he, fine, Nat.lt_irrefl, if_false]
    all_goals rfl
  · have hge : 0 ≤ idx at_ zs := by assumption
    have hn : firstAt at_ zs < zs.length := by
      rcases Nat.lt_or_ge (firstAt at_ zs) zs.length with h | h
      · exact h
      · simp only [idx, if_neg (Nat.not_lt.2 h)] at hge; omega
    go_ret2
    refine ⟨?_, k2.trans hb'⟩
    simp only [fine, if_pos hn, idx]
    rfl

end Go.W14
