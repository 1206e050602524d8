/- The walk of RecordMixed: whatever is handed in, it answers true and writes nothing that was there. -/
import Derived.Test.YtdgciajdnmgcnaaRecMixN
import Derived.Test.YtdgciajdnmgcnaaRecMixD
import Derived.Test.YtdgciajdnmgcnaaRecMixQ
namespace Go.Proofs.Ytdgciajdnmgcnaa
open Go.RowKit
set_option linter.unusedVariables false

theorem mixed_walk (s : Int) (A : Option Addr) (n c : Nat) (z : List Int) (o : Int) (B : Option Addr) (m d : Nat) (z2 : List Int) (x y : Int) (w : World) (w0 : (Lit.int .u64 s).wf = true) (w1 : IsRow .u8 w A n c z) (w2 : (Lit.int .u64 o).wf = true) (w3 : IsRow .u8 w B m d z2) (_ : (Lit.int .i64 x).wf = true) (_ : (Lit.int .i64 y).wf = true) :
    Calls Try.prog 8 #[.int .u64 s, .slice A n c, .int .u64 o, .slice B m d, .int .i64 x, .int .i64 y] w fun e w' => e = .returned (.bool true) ∧ Below w.heap.size w w' := by
  obtain ⟨l, hn, hl, bl, _, hA, hnc⟩ := row_rd w1
  obtain ⟨l2, hm, hl2, bl2, _, hBB, hmd⟩ := row_rd w3
  have hs := wf_u64b w0
  have ho := wf_u64b w2
  have E2 := write_tot o B m d l2 w ho hm hmd hBB hl2 bl2
  by_cases h0 : s = 0
  · subst h0
    exact mixed_err 0 A n c o B m d x y 1 w rfl (fun w => write_arg A n c w) E2
  by_cases h1 : 4096 < n
  · exact mixed_err s A n c o B m d x y 4 w rfl (fun w => write_large s A n c w h0 h1) E2
  have E1 : Calls Try.prog 10 #[.int .u64 s, .slice A n c] w fun e w' => ∃ v, e = .returned (.tuple #[v, .int .i64 0]) ∧ Below w.heap.size w w' :=
    (write_ok s A n c l w (by omega) hn (by omega) hnc hA hl bl).mono fun e w' ⟨v, gs, h1, _, _, h2⟩ => ⟨v, h1, h2⟩
  by_cases h2 : o = 0
  · subst h2
    exact mixed_err2 s A n c 0 B m d x y 1 w rfl E1 (fun w => write_arg B m d w)
  by_cases h3 : 4096 < m
  · exact mixed_err2 s A n c o B m d x y 4 w rfl E1 (fun w => write_large o B m d w h2 h3)
  clear E1 E2
  subst hn; subst hm
  obtain ⟨p0, f0, g0⟩ := u64_nat x
  obtain ⟨p1, f1, g1⟩ := u64_nat y
  obtain ⟨x0, d0, l0⟩ := modN p0 (cnt l.length) (cnt_pos (n := l.length) (by omega)).1
  obtain ⟨x1, d1, l1⟩ := modN p1 (cnt l.length) (cnt_pos (n := l.length) (by omega)).1
  obtain ⟨Li, hLi⟩ : ∃ L, (recL s l)[x0]? = some L := ⟨_, List.getElem?_eq_getElem (by rw [recL_length]; exact l0)⟩
  obtain ⟨Lk, hLk⟩ : ∃ L, (recL s l)[x1]? = some L := ⟨_, List.getElem?_eq_getElem (by rw [recL_length]; exact l1)⟩
  by_cases hx : x0 = x1
  · subst hx
    by_cases hi : x0 < cnt l2.length
    · obtain ⟨Mx, hMx⟩ : ∃ L, (recL o l2)[x0]? = some L := ⟨_, List.getElem?_eq_getElem (by rw [recL_length]; exact hi)⟩
      by_cases hL : Mx = Li
      · exact mixed_mIQ s A l.length c l o B l2.length d l2 x y w (by omega) (by omega) rfl hA hl bl hnc (by omega) rfl hBB hl2 bl2 hmd (by omega) p0 p1 x0 x0 f0 f1 g0 g1 d0 d1 l0 l0 Li Li Mx hLi hLi _ _ _ rfl rfl rfl hi hMx hL rfl (by rw [swap_id hLi]; exact (readErr_rec (by omega) bl (by omega)).2 ⟨rfl, rfl⟩)
      by_cases hso : s = o
      · by_cases he : readErr s (l.length : Int) ((recL s l).set x0 Mx) = 0
        · have hv : readVal s (l.length : Int) ((recL s l).set x0 Mx) ≠ l := by
            intro e
            unfold readVal at e
            rw [if_pos he] at e
            have h9 := mix_same (by omega) (by omega) bl bl2 (by omega) (by omega) l0 hMx he e
            rw [hLi] at h9
            exact hL (Option.some.inj h9).symm
          exact mixed_mZQ s A l.length c l o B l2.length d l2 x y w (by omega) (by omega) rfl hA hl bl hnc (by omega) rfl hBB hl2 bl2 hmd (by omega) p0 p1 x0 x0 f0 f1 g0 g1 d0 d1 l0 l0 Li Li Mx hLi hLi _ _ _ rfl rfl rfl hi hMx hL he hv hso rfl (by rw [swap_id hLi]; exact (readErr_rec (by omega) bl (by omega)).2 ⟨rfl, rfl⟩)
        · exact mixed_mSQ s A l.length c l o B l2.length d l2 x y w (by omega) (by omega) rfl hA hl bl hnc (by omega) rfl hBB hl2 bl2 hmd (by omega) p0 p1 x0 x0 f0 f1 g0 g1 d0 d1 l0 l0 Li Li Mx hLi hLi _ _ _ rfl rfl rfl hi hMx hL he hso rfl (by rw [swap_id hLi]; exact (readErr_rec (by omega) bl (by omega)).2 ⟨rfl, rfl⟩)
      · have he := mix_other (s := s) (o := o) (by omega) (by omega) bl bl2 (by omega) (by omega) l0 hMx hso
        exact mixed_mEQ s A l.length c l o B l2.length d l2 x y w (by omega) (by omega) rfl hA hl bl hnc (by omega) rfl hBB hl2 bl2 hmd (by omega) p0 p1 x0 x0 f0 f1 g0 g1 d0 d1 l0 l0 Li Li Mx hLi hLi _ _ _ rfl rfl rfl hi hMx hL he hso rfl (by rw [swap_id hLi]; exact (readErr_rec (by omega) bl (by omega)).2 ⟨rfl, rfl⟩)
    · obtain ⟨Mx, hMx⟩ : ∃ L, L = Li := ⟨_, rfl⟩
      exact mixed_nIQ s A l.length c l o B l2.length d l2 x y w (by omega) (by omega) rfl hA hl bl hnc (by omega) rfl hBB hl2 bl2 hmd (by omega) p0 p1 x0 x0 f0 f1 g0 g1 d0 d1 l0 l0 Li Li Mx hLi hLi _ _ _ rfl rfl rfl hi hMx hMx rfl (by rw [swap_id hLi]; exact (readErr_rec (by omega) bl (by omega)).2 ⟨rfl, rfl⟩)
  · skip
    by_cases hi : x0 < cnt l2.length
    · obtain ⟨Mx, hMx⟩ : ∃ L, (recL o l2)[x0]? = some L := ⟨_, List.getElem?_eq_getElem (by rw [recL_length]; exact hi)⟩
      by_cases hL : Mx = Li
      · exact mixed_mID s A l.length c l o B l2.length d l2 x y w (by omega) (by omega) rfl hA hl bl hnc (by omega) rfl hBB hl2 bl2 hmd (by omega) p0 p1 x0 x1 f0 f1 g0 g1 d0 d1 l0 l1 Li Lk Mx hLi hLk _ _ _ rfl rfl rfl hi hMx hL hx (swap_err (by omega) bl (by omega) hLi hLk hx)
      by_cases hso : s = o
      · by_cases he : readErr s (l.length : Int) ((recL s l).set x0 Mx) = 0
        · have hv : readVal s (l.length : Int) ((recL s l).set x0 Mx) ≠ l := by
            intro e
            unfold readVal at e
            rw [if_pos he] at e
            have h9 := mix_same (by omega) (by omega) bl bl2 (by omega) (by omega) l0 hMx he e
            rw [hLi] at h9
            exact hL (Option.some.inj h9).symm
          exact mixed_mZD s A l.length c l o B l2.length d l2 x y w (by omega) (by omega) rfl hA hl bl hnc (by omega) rfl hBB hl2 bl2 hmd (by omega) p0 p1 x0 x1 f0 f1 g0 g1 d0 d1 l0 l1 Li Lk Mx hLi hLk _ _ _ rfl rfl rfl hi hMx hL he hv hso hx (swap_err (by omega) bl (by omega) hLi hLk hx)
        · exact mixed_mSD s A l.length c l o B l2.length d l2 x y w (by omega) (by omega) rfl hA hl bl hnc (by omega) rfl hBB hl2 bl2 hmd (by omega) p0 p1 x0 x1 f0 f1 g0 g1 d0 d1 l0 l1 Li Lk Mx hLi hLk _ _ _ rfl rfl rfl hi hMx hL he hso hx (swap_err (by omega) bl (by omega) hLi hLk hx)
      · have he := mix_other (s := s) (o := o) (by omega) (by omega) bl bl2 (by omega) (by omega) l0 hMx hso
        exact mixed_mED s A l.length c l o B l2.length d l2 x y w (by omega) (by omega) rfl hA hl bl hnc (by omega) rfl hBB hl2 bl2 hmd (by omega) p0 p1 x0 x1 f0 f1 g0 g1 d0 d1 l0 l1 Li Lk Mx hLi hLk _ _ _ rfl rfl rfl hi hMx hL he hso hx (swap_err (by omega) bl (by omega) hLi hLk hx)
    · obtain ⟨Mx, hMx⟩ : ∃ L, L = Li := ⟨_, rfl⟩
      exact mixed_nID s A l.length c l o B l2.length d l2 x y w (by omega) (by omega) rfl hA hl bl hnc (by omega) rfl hBB hl2 bl2 hmd (by omega) p0 p1 x0 x1 f0 f1 g0 g1 d0 d1 l0 l1 Li Lk Mx hLi hLk _ _ _ rfl rfl rfl hi hMx hMx hx (swap_err (by omega) bl (by omega) hLi hLk hx)
end Go.Proofs.Ytdgciajdnmgcnaa
