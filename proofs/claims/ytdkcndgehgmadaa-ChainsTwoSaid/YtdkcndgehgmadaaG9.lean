/-
  Walks: links.Check's 'leads', in full.
-/
import Derived.Test.YtdkcndgehgmadaaG8
open Go Go.RowKit Alm
namespace Go.Proofs.Ytdkcndgehgmadaa
theorem leads_step (a : Sum) (m n : Nat) (e : Bool) (p : List Sum) (h : ¬ n ≤ m) (h1 : ¬ n ≤ 1) : leads2 nd a m n e p = if m ≤ cut n then onLeft (leads2 nd a m (cut n) e p) else onRight (leads2 nd a (m - cut n) (n - cut n) false p) := by
  rw [leads2, dif_neg h, dif_neg h1]
  by_cases hk : m ≤ cut n
  · rw [if_pos hk, if_pos hk]
    generalize leads2 nd a m (cut n) e p = r
    rcases r with _ | ⟨⟨x, y⟩, _ | ⟨s, q⟩⟩ <;> rfl
  · rw [if_neg hk, if_neg hk]
    generalize leads2 nd a (m - cut n) (n - cut n) false p = r
    rcases r with _ | ⟨⟨x, y⟩, _ | ⟨s, q⟩⟩ <;> rfl
theorem leads_any (B A N L c : Nat) (a : Sum) : ∀ (d n m : Nat) (e : Bool) (p : List Sum) (w : World), n ≤ d → 1 ≤ m → m ≤ n → n < 4000000000 → B ≤ w.heap.size → LeadsIn w A N L c a → LeftAt B w c p →
    Calls Try.prog 73 (leadsArgs m n e A N L) w (LeadsOf B w c (leads2 nd a m n e p)) := by
  intro d
  induction d with
  | zero => intro n m e p w h0 h1 h2; omega
  | succ d ih =>
    intro n m e p w h0 h1 h2 h3 hB hI hp
    by_cases hmn : n ≤ m
    · have : m = n := by omega
      subst this
      rw [leads2, dif_pos hmn]
      cases e with
      | true => exact leads_edge B A N L c a m p w hI hp
      | false => exact leads_told B A N L c a m p w hB hI hp
    · have hc0 := hp.lt
      have hk1 := cut_lt (n := n) (by omega)
      have hk2 := cut_pos n
      rw [leads_step a m n e p hmn (by omega)]
      by_cases hk : m ≤ cut n
      · rw [if_pos hk]
        exact leads_left B A N L c a m n e _ w hB hI hc0 h1 (by omega) h3 hk (fun W hb => ih (cut n) m e p W (by omega) h1 hk (by omega) (Nat.le_trans hB hb.size) (hI.keep (.of_below hb)) (hp.below hb))
      · rw [if_neg hk]
        exact leads_right B A N L c a m n e _ w hB hI hc0 h1 (by omega) h3 (by omega) (fun W hb => ih (n - cut n) (m - cut n) false p W (by omega) (by omega) (by omega) (by omega) (Nat.le_trans hB hb.size) (hI.keep (.of_below hb)) (hp.below hb))
end Go.Proofs.Ytdkcndgehgmadaa
