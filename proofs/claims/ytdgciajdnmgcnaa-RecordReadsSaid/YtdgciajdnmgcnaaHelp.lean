/- Contracts: dunnagehelp.Bytes, and its kin; whatever is handed in. -/
import Derived.Test.YtdgciajdnmgcnaaSeal
namespace Go.Proofs.Ytdgciajdnmgcnaa
open Go.RowKit

theorem bytes_any (A : Option Addr) (n c : Nat) (l : List Int) (B : Option Addr) (m d : Nat) (k : List Int) (w : World) (hn : l.length = n) (hm : k.length = m) (hl : Rd w A (bys l)) (hk : Rd w B (bys k)) (bl : IsB l) (bk : IsB k) :
    Calls Try.prog 24 #[.slice A n c, .slice B m d] w fun e w' => e = .returned (.bool (decide (l = k))) ∧ w = w' := by
  have h1 := str_of_rd (c := c) Try.underlying23 Try.underlying5 Try.underlying9 hl hn
  have h2 := str_of_rd (c := d) Try.underlying23 Try.underlying5 Try.underlying9 hk hm
  have HE := Lib.hid (strOfNums_beq bl bk)
  clear hl hk hn hm
  go_enter Try.func24, Try.ntmps24
  go_wp2
  go_ret
  exact ⟨by rw [← HE.out]; rfl, rfl⟩
end Go.Proofs.Ytdgciajdnmgcnaa
