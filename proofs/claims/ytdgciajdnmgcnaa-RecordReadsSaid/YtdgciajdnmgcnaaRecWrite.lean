/- Contracts: record.Write; whatever is handed in. -/
import Derived.Test.YtdgciajdnmgcnaaRec
namespace Go.Proofs.Ytdgciajdnmgcnaa
open Go.RowKit
set_option linter.unusedVariables false

theorem infoSl : (Try.prog.info? 23).map (fun i => (i.zero, i.size, i.bytes)) = some (some (.slice none 0 0), 1, 24) := by kernel_rfl
/-- A sector that lies in a block of its own. -/
def secV (g : Nat) : Value := .slice (some ⟨g, 0, none⟩) 512 512
/-- Sectors, each in a block of its own. -/
structure Secs (base : Nat) (w : World) (gs : List Nat) (Ls : List (List Int)) : Prop where
  len : gs.length = Ls.length
  dis : gs.Nodup
  at_ : ∀ (j : Nat) (g : Nat) (L : List Int), gs[j]? = some g → Ls[j]? = some L → base ≤ g ∧ w.heap[g]? = some (.cells (bys L).toArray 63 (0, 0))
theorem Secs.nil (base : Nat) (w : World) : Secs base w [] [] := ⟨rfl, List.nodup_nil, fun j g L h => by simp at h⟩
theorem Secs.lt {base : Nat} {w : World} {gs : List Nat} {Ls : List (List Int)} (h : Secs base w gs Ls) : ∀ g ∈ gs, base ≤ g ∧ g < w.heap.size := by
  intro g hg
  obtain ⟨j, hj⟩ := List.mem_iff_getElem?.1 hg
  have hjl := (List.getElem?_eq_some_iff.1 hj).1
  have hjL : j < Ls.length := by rw [← h.len]; exact hjl
  obtain ⟨h1, h2⟩ := h.at_ j g Ls[j] hj (List.getElem?_eq_getElem hjL)
  exact ⟨h1, lt_of_block h2⟩
theorem Secs.mv {base : Nat} {w w' : World} {gs : List Nat} {Ls : List (List Int)} (h : Secs base w gs Ls) (hb : ∀ g ∈ gs, w'.heap[g]? = w.heap[g]?) : Secs base w' gs Ls :=
  ⟨h.len, h.dis, fun j g L h1 h2 => ⟨(h.at_ j g L h1 h2).1, (hb g (List.mem_of_getElem? h1)).trans (h.at_ j g L h1 h2).2⟩⟩
theorem Secs.kept {base : Nat} {w w' : World} {gs : List Nat} {Ls : List (List Int)} (h : Secs base w gs Ls) (hb : Below w.heap.size w w') : Secs base w' gs Ls :=
  h.mv fun g hg => hb.block g (h.lt g hg).2
theorem secs_not_own {base B : Nat} {w : World} {gs : List Nat} {Ls : List (List Int)} (h : Secs base w gs Ls) {v : Value} {n : Nat} {xs : List Value} (hown : w.ownsRow B 23 1 v n xs) : ∀ g ∈ gs, v.ownBlock ≠ some g := by
  intro g hg he
  obtain ⟨j, hj⟩ := List.mem_iff_getElem?.1 hg
  have hjl := (List.getElem?_eq_some_iff.1 hj).1
  have hjL : j < Ls.length := by rw [← h.len]; exact hjl
  obtain ⟨h1, h2⟩ := h.at_ j g Ls[j] hj (List.getElem?_eq_getElem hjL)
  rcases hown.2 with ⟨rfl, _⟩ | ⟨g', cap, cur, rfl, _, h3, _⟩
  · simp [Value.ownBlock] at he
  · simp [Value.ownBlock] at he
    subst he
    rw [h2] at h3
    simp at h3
theorem Secs.grown {base B : Nat} {w w' : World} {gs : List Nat} {Ls : List (List Int)} (h : Secs base w gs Ls) {v : Value} {n : Nat} {xs : List Value} (hown : w.ownsRow B 23 1 v n xs) (hg : w.grownBy w' v.ownBlock) : Secs base w' gs Ls :=
  h.mv fun g hgm => hg.block g (h.lt g hgm).2 (fun e => secs_not_own h hown g hgm e.symm)
theorem Secs.snoc {base : Nat} {w : World} {gs : List Nat} {Ls : List (List Int)} (h : Secs base w gs Ls) {g : Nat} {L : List Int} (hb : base ≤ g) (hn : ∀ k ∈ gs, k < g) (hg : w.heap[g]? = some (.cells (bys L).toArray 63 (0, 0))) : Secs base w (gs ++ [g]) (Ls ++ [L]) := by
  refine ⟨by simp [h.len], ?_, fun j k M h1 h2 => ?_⟩
  · rw [List.nodup_append]
    refine ⟨h.dis, by simp, fun a ha b hb2 => ?_⟩
    simp at hb2; subst hb2
    exact Nat.ne_of_lt (hn a ha)
  · by_cases hlt : j < Ls.length
    · rw [List.getElem?_append_left (by rw [h.len]; exact hlt)] at h1
      rw [List.getElem?_append_left hlt] at h2
      exact h.at_ j k M h1 h2
    · rw [List.getElem?_append_right (by omega)] at h2
      have hz : j - Ls.length = 0 := by
        have := (List.getElem?_eq_some_iff.1 h2).1; simp at this; omega
      rw [List.getElem?_append_right (by rw [h.len]; omega), h.len, hz] at h1
      rw [hz] at h2
      simp at h1 h2; subst h1; subst h2
      exact ⟨hb, hg⟩
theorem Secs.rdl {base : Nat} {w : World} {gs : List Nat} {Ls : List (List Int)} (h : Secs base w gs Ls) (hL : ∀ x ∈ Ls, x.length = 512 ∧ IsB x) : RdL w (gs.map secV) Ls := by
  refine ⟨by simp [h.len], fun j L hj => ?_⟩
  have hjl : j < gs.length := by rw [h.len]; exact (List.getElem?_eq_some_iff.1 hj).1
  obtain ⟨_, h2⟩ := h.at_ j gs[j] L (List.getElem?_eq_getElem hjl) hj
  obtain ⟨hl, hB⟩ := hL L (List.mem_of_getElem? hj)
  exact ⟨some ⟨gs[j], 0, none⟩, 512, by simp [secV, List.getElem?_eq_getElem hjl, hl], (fun e => by cases e), by omega, rd_block h2, hB⟩

/-- Where a part of a slice lies. -/
def cutA (A : Option Addr) (lo hi : Nat) : Option Addr := if hi = lo then A else A.map (·.add lo)
/-- 'b[lo:hi:hi]' of cells of one place each. -/
theorem run_cut3 {P : Program} {t e : TypeId} (ht : P.underlying t = some (.slice e)) (hsz : (P.info? e).map (·.size) = some 1) (A : Option Addr) (n c lo hi : Nat) (h1 : lo ≤ hi) (h2 : hi ≤ c) :
    ∀ W : World, (Instr.slice t (.slice A n c) (some (.int .i64 lo)) (some (.int .i64 hi)) (some (.int .i64 hi))).run P W = .ok (.slice (cutA A lo hi) (hi - lo) (hi - lo)) W := by
  intro W
  have hel : P.elem t = e := by simp [Program.elem, ht]
  have hu : P.underlying t = some (.slice (P.elem t)) := by rw [hel]; exact ht
  cases hi' : P.info? e with
  | none => rw [hi'] at hsz; simp at hsz
  | some i =>
    rw [hi'] at hsz
    simp at hsz
    rw [run_slice_lhm W t A n c hu .i64 .i64 .i64 (lo : Int) (hi : Int) (hi : Int) (by omega) (by omega) (by omega) (by omega), hel]
    simp [sizeOf, typeInfo, hi', hsz, sliced, Result.andThen, cutA]
theorem rd_cutA {w : World} {A : Option Addr} {l : List Int} (h : Rd w A (bys l)) (lo hi : Nat) (h1 : lo ≤ hi) (h2 : hi ≤ l.length) : Rd w (cutA A lo hi) (bys ((l.drop lo).take (hi - lo))) := by
  unfold cutA
  split
  · rename_i e; subst e; simp; exact Rd.nil _ _
  · obtain ⟨b, o, rfl⟩ := h.some_of (by intro e; have := congrArg List.length e; rw [bys_length] at this; simp at this; simp [this] at h2; omega)
    rw [bys_take, bys_drop]
    rw [Option.map_some, add_at]
    exact h.part lo (hi - lo)

set_option maxHeartbeats 2000000 in
theorem write_arg (A : Option Addr) (n c : Nat) (w : World) :
    Calls Try.prog 10 #[.int .u64 0, .slice A n c] w fun e w' => e = .returned (.tuple #[.slice none 0 0, .int .i64 1]) ∧ w = w' := by
  go_enter Try.func10, Try.ntmps10
  go_wp2
  go_ret2
  exact ⟨rfl, rfl⟩
set_option maxHeartbeats 2000000 in
theorem write_large (s : Int) (A : Option Addr) (n c : Nat) (w : World) (hs : s ≠ 0) (hn : 4096 < n) :
    Calls Try.prog 10 #[.int .u64 s, .slice A n c] w fun e w' => e = .returned (.tuple #[.slice none 0 0, .int .i64 4]) ∧ w = w' := by
  have h0 : (s == 0) = false := by simpa using hs
  have h1 : (4096 : Int) < (n : Int) := by omega
  clear hs hn
  go_enter Try.func10, Try.ntmps10
  go_wp2
  go_ret2
  exact ⟨rfl, rfl⟩
set_option maxRecDepth 100000 in
set_option maxHeartbeats 4000000 in
theorem write_ok (s : Int) (A : Option Addr) (n c : Nat) (l : List Int) (w : World) (hs : 0 < s ∧ s < 18446744073709551616) (hln : l.length = n) (hn : n ≤ 4096) (hc : n ≤ c) (hA : A = none → n = 0 ∧ c = 0) (hl : Rd w A (bys l)) (hB : IsB l) :
    Calls Try.prog 10 #[.int .u64 s, .slice A n c] w fun e w' => ∃ v gs, e = .returned (.tuple #[v, .int .i64 0]) ∧ w'.ownsRow w.heap.size 23 1 v (cnt n) (gs.map secV) ∧ Secs w.heap.size w' gs (recL s l) ∧ Below w.heap.size w w' := by
  have h0 : (s == 0) = false := by simp; omega
  have h1 : ¬ (4096 : Int) < (n : Int) := by omega
  have C1 := Lib.hid (fun w => count_any (n : Int) w)
  rw [cntI_nat] at C1
  have C2 := Lib.hid (fun (B : Option Addr) (vs : List Value) (Ls : List (List Int)) (w : World) (hm : vs.length = 2) (hv : Rd w B vs) (hL : RdL w vs Ls) (ht : tot Ls ≤ 140737488355328) => concat_any B 2 2 vs Ls w hm hv hL (by decide) ht)
  have C3 := Lib.hid (fun (A' : Option Addr) (c' n' : Nat) (p : List Int) (w : World) (hn' : p.length = n') (h' : Rd w A' (bys p)) (hp : n' ≤ 496) (hI : IsB p) => seal_okn 113 s A' c' n' p w hn' h' known113 hp hI (by decide) (by omega) hs.2)
  have hcp := cnt_pos hn
  have hce := cnt_eq hn
  have HLN := Lib.hid hln
  have HCE := Lib.hid hce
  obtain ⟨of, hof⟩ : ∃ of, of = cnt n := ⟨_, rfl⟩
  rw [← hof] at C1 hcp ⊢
  have HOF := Lib.hid hof
  clear hof hce hln hs
  go_enter Try.func10, Try.ntmps10
  go_wp2_with fail
  refine (C1.out _).mono ?_
  rintro e w1 ⟨rfl, rfl⟩
  go_wp2_with fail
  go_loopw [7, 22] (fun v i wr => ∃ (j : Nat) (A' : Option Addr) (c' : Nat) (gs : List Nat), j ≤ of ∧ i = .int .i64 j ∧ v = .slice A' j c' ∧ wr.ownsRow w.heap.size 23 1 (.slice A' j c') j (gs.map secV) ∧ Secs w.heap.size wr gs ((recL s l).take j) ∧ Below w.heap.size w wr) (fun v i _ => of - (intOf i).toNat)
  case atStart => exact ⟨0, none, 0, [], by omega, rfl, rfl, World.ownsRow_nil _ _ _ _, Secs.nil _ _, Below.refl _ _⟩
  case round =>
    obtain ⟨j, A', c', gs, hj, rfl, rfl, hown, hS, hb⟩ := hrel
    by_cases hlt : j < of
    · have HO := Lib.hid hown
      have HS := Lib.hid hS
      have HB0 := Lib.hid hb
      obtain ⟨hi, hhi⟩ : ∃ hi, hi = 480 * (j + 1) := ⟨_, rfl⟩
      obtain ⟨lo, hlo⟩ : ∃ lo, lo = 480 * j := ⟨_, rfl⟩
      obtain ⟨E, hE⟩ : ∃ E, E = min hi n := ⟨_, rfl⟩
      have hoe : of = max ((n + 479) / 480) 1 := by rw [HOF.out]; exact HCE.out
      have e1 : IntKind.i64.wrap ((j : Int) + 1) = (j : Int) + 1 := IntWalk.i64_in _ (by omega)
      have e2 : IntKind.i64.wrap (((j : Int) + 1) * 480) = (hi : Int) := by rw [IntWalk.i64_in _ (by omega)]; omega
      have e3 : IntKind.i64.wrap ((j : Int) * 480) = (lo : Int) := by rw [IntWalk.i64_in _ (by omega)]; omega
      have e4 : IntKind.u8.wrap (j : Int) = (j : Int) := by rw [IntKind.wrap_u8]; omega
      have e5 : IntKind.u8.wrap (of : Int) = (of : Int) := by rw [IntKind.wrap_u8]; omega
      have hloE : lo ≤ E := by omega
      have hEn : E ≤ n := by omega
      have hcut := run_cut3 (P := Try.prog) Try.underlying23 sizeU8 A n c lo E hloE (by omega)
      have hpart : [(j : Int), (of : Int)] ++ (l.drop lo).take (E - lo) = partL l (cnt l.length) j := by
        rw [HLN.out, ← HOF.out]; unfold partL; congr 1
        rw [← hlo]
        rw [List.take_eq_take_iff]; simp [HLN.out]; omega
      have HP := Lib.hid hpart
      have HPB := Lib.hid (partL_isB (i := j) (of := of) hB (by omega) (by omega))
      have hpl : ((l.drop lo).take (E - lo)).length = E - lo := by simp [HLN.out]; omega
      have HPL := Lib.hid hpl
      have hE480 : E - lo ≤ 480 := by omega
      have hcA : cutA A lo E = none → E - lo = 0 ∧ E - lo = 0 := by
        intro e; unfold cutA at e; split at e
        · omega
        · cases A with
          | none => have := hA rfl; omega
          | some a => simp at e
      have HCA := Lib.hid hcA
      have HRP := Lib.hid (rd_cutA (hl.kept hb) lo E hloE (by rw [HLN.out]; exact hEn))
      have HTK := Lib.hid (recL_take (s := s) (l := l) (i := j) (by rw [HLN.out, ← HOF.out]; exact hlt))
      have hmin0 : (n < hi ∧ E = n) ∨ (hi ≤ n ∧ E = hi) := by omega
      have HMIN := Lib.hid hmin0
      clear hmin0 hpart hpl hcA hown hS hb hhi hlo hE hoe
      generalize cutA A lo E = A2 at hcut HCA HRP
      obtain ⟨m2, hm2⟩ : ∃ m2, m2 = E - lo := ⟨_, rfl⟩
      rw [← hm2] at hcut HCA hE480 HPL HP HRP
      generalize (l.drop lo).take m2 = pl at HPL HP HRP
      clear hm2
      rcases HMIN.out with ⟨hm, rfl⟩ | ⟨hm, rfl⟩
      · have hmI : (E : Int) < (hi : Int) := by omega
        go_wp2_with fail
        have hb0 : Below wr.heap.size wr ((wr.alloc (.cells #[.int .u8 (j : Int), .int .u8 (of : Int)] 5)).alloc (.cells #[.slice (some ⟨wr.heap.size, 0, none⟩) 2 2, .slice A2 m2 m2] 23)) := ((Below.refl _ wr).alloc (Nat.le_refl _) _).alloc (by simp) _
        have hv : Rd ((wr.alloc (.cells #[.int .u8 (j : Int), .int .u8 (of : Int)] 5)).alloc (.cells #[.slice (some ⟨wr.heap.size, 0, none⟩) 2 2, .slice A2 m2 m2] 23)) (some ⟨wr.heap.size + 1, 0, none⟩) [Value.slice (some ⟨wr.heap.size, 0, none⟩) 2 2, Value.slice A2 m2 m2] := by
          have := rd_block (L := [Value.slice (some ⟨wr.heap.size, 0, none⟩) 2 2, Value.slice A2 m2 m2]) (heap_alloc_new (wr.alloc (.cells #[.int .u8 (j : Int), .int .u8 (of : Int)] 5)) (.cells #[.slice (some ⟨wr.heap.size, 0, none⟩) 2 2, .slice A2 m2 m2] 23))
          rwa [World.size_alloc] at this
        have hI2 : IsB [(j : Int), (of : Int)] := by
          intro x hx; simp at hx; omega
        have hr2 : Rd ((wr.alloc (.cells #[.int .u8 (j : Int), .int .u8 (of : Int)] 5)).alloc (.cells #[.slice (some ⟨wr.heap.size, 0, none⟩) 2 2, .slice A2 m2 m2] 23)) (some ⟨wr.heap.size, 0, none⟩) (bys [(j : Int), (of : Int)]) :=
          (rd_block (L := bys [(j : Int), (of : Int)]) (heap_alloc_new wr (.cells #[.int .u8 (j : Int), .int .u8 (of : Int)] 5))).kept ((Below.refl _ _).alloc (Nat.le_refl _) _)
        have hIp : IsB pl := by
          intro x hx
          exact HPB.out x (by have h := HP.out; rw [HLN.out, ← HOF.out] at h; rw [← h]; exact List.mem_append_right _ hx)
        have hL2 : RdL ((wr.alloc (.cells #[.int .u8 (j : Int), .int .u8 (of : Int)] 5)).alloc (.cells #[.slice (some ⟨wr.heap.size, 0, none⟩) 2 2, .slice A2 m2 m2] 23)) [Value.slice (some ⟨wr.heap.size, 0, none⟩) 2 2, Value.slice A2 m2 m2] [[(j : Int), (of : Int)], pl] :=
          ((RdL.nil _).snoc (A := some ⟨wr.heap.size, 0, none⟩) (n := 2) (c := 2) rfl (fun e => by cases e) (Nat.le_refl _) hr2 hI2).snoc HPL.out HCA.out (Nat.le_refl _) (HRP.out.kept hb0) hIp
        have hF : [[(j : Int), (of : Int)], pl].flatten = partL l (cnt l.length) j := by rw [← HP.out]; simp
        have hT : tot [[(j : Int), (of : Int)], pl] = 2 + m2 := by unfold tot; simp [HPL.out]; omega
        have hpn : (partL l (cnt l.length) j).length = 2 + m2 := by rw [← hF]; exact hT
        have HHB0 := Lib.hid hb0
        have HPN := Lib.hid hpn
        clear hb0 hpn hr2 hI2 hIp
        refine (C2.out _ _ _ _ rfl hv hL2 (by rw [hT]; omega)).mono ?_
        rintro e w2 ⟨v2, rfl, hown2, hb2⟩
        rw [hT, hF] at hown2
        obtain ⟨A3, c3, rfl, hnc3, hcm3, hrd3, hlen3⟩ := own_rd hown2
        have HB2 := Lib.hid (HHB0.out.trans (hb2.mono HHB0.out.size))
        have HR3 := Lib.hid hrd3
        clear hv hL2 hT hF hown2 hb2 hrd3 hlen3 hcm3
        go_wp2_with fail
        refine (C3.out A3 c3 (2 + m2) (partL l (cnt l.length) j) _ HPN.out HR3.out (by omega) (by rw [HLN.out, ← HOF.out]; exact HPB.out)).mono ?_
        rintro e w3 ⟨g, rfl, hgg, hh, hb3⟩
        have HB3 := Lib.hid (HB2.out.trans (hb3.mono HB2.out.size))
        have HO3 := Lib.hid (own_kept HO.out HB3.out)
        have hwr := HB0.out.size
        have hw2 := HB2.out.size
        have HS3 : Hid (Secs w.heap.size w3 (gs ++ [g]) ((recL s l).take (j + 1))) := by
          rw [HTK.out]; exact (HS.out.kept HB3.out).snoc (by omega) (fun k hk => by have := (HS.out.lt k hk).2; omega) hh
        have HBw3 := Lib.hid (HB0.out.trans (HB3.out.mono HB0.out.size))
        clear hb3 hh hnc3
        go_wp2_with (at_builtin; go_must (refine wpList_append_rd rfl _ _ 25 rfl w.heap.size 23 (.slice none 0 0) 1 24 Try.underlying25 infoSl rfl (by decide) _ j (gs.map secV) rfl (HO3.out.alloc _) _ 1 1 [Value.slice (some ⟨g, 0, none⟩) 512 512] rfl (by simp) (by simp) (rd_new1 _ _ _) (by simp [Value.oneCell']) (by unfold maxLen; omega) (by omega) (HBw3.out.alloc HBw3.out.size _).size ?_))
        intro v8 w8 hown8 hg8
        have hb8 := below_app (HBw3.out.alloc HBw3.out.size _) (HBw3.out.alloc HBw3.out.size _).size (HO3.out.alloc _) hg8
        have HB8 := Lib.hid hb8
        have HS8 := Lib.hid ((HS3.out.kept ((Below.refl _ w3).alloc (Nat.le_refl _) _)).grown (HO3.out.alloc _) hg8)
        obtain ⟨A8, c8, rfl, hc8⟩ := own_sh hown8
        have HO8 : Hid (w8.ownsRow w.heap.size 23 1 (.slice A8 (j + 1) c8) (j + 1) ((gs ++ [g]).map secV)) := by
          rw [List.map_append]; exact hown8
        clear hown8 hg8 hb8 hc8
        go_wp2
        go_roundw
        case rel => exact ⟨j + 1, A8, c8, gs ++ [g], by omega, by go_num, rfl, HO8.out, HS8.out, HB8.out⟩
        case measure => simp [intOf]; omega
      · have hmI : ¬ (n : Int) < (E : Int) := by omega
        go_wp2_with fail
        have hb0 : Below wr.heap.size wr ((wr.alloc (.cells #[.int .u8 (j : Int), .int .u8 (of : Int)] 5)).alloc (.cells #[.slice (some ⟨wr.heap.size, 0, none⟩) 2 2, .slice A2 m2 m2] 23)) := ((Below.refl _ wr).alloc (Nat.le_refl _) _).alloc (by simp) _
        have hv : Rd ((wr.alloc (.cells #[.int .u8 (j : Int), .int .u8 (of : Int)] 5)).alloc (.cells #[.slice (some ⟨wr.heap.size, 0, none⟩) 2 2, .slice A2 m2 m2] 23)) (some ⟨wr.heap.size + 1, 0, none⟩) [Value.slice (some ⟨wr.heap.size, 0, none⟩) 2 2, Value.slice A2 m2 m2] := by
          have := rd_block (L := [Value.slice (some ⟨wr.heap.size, 0, none⟩) 2 2, Value.slice A2 m2 m2]) (heap_alloc_new (wr.alloc (.cells #[.int .u8 (j : Int), .int .u8 (of : Int)] 5)) (.cells #[.slice (some ⟨wr.heap.size, 0, none⟩) 2 2, .slice A2 m2 m2] 23))
          rwa [World.size_alloc] at this
        have hI2 : IsB [(j : Int), (of : Int)] := by
          intro x hx; simp at hx; omega
        have hr2 : Rd ((wr.alloc (.cells #[.int .u8 (j : Int), .int .u8 (of : Int)] 5)).alloc (.cells #[.slice (some ⟨wr.heap.size, 0, none⟩) 2 2, .slice A2 m2 m2] 23)) (some ⟨wr.heap.size, 0, none⟩) (bys [(j : Int), (of : Int)]) :=
          (rd_block (L := bys [(j : Int), (of : Int)]) (heap_alloc_new wr (.cells #[.int .u8 (j : Int), .int .u8 (of : Int)] 5))).kept ((Below.refl _ _).alloc (Nat.le_refl _) _)
        have hIp : IsB pl := by
          intro x hx
          exact HPB.out x (by have h := HP.out; rw [HLN.out, ← HOF.out] at h; rw [← h]; exact List.mem_append_right _ hx)
        have hL2 : RdL ((wr.alloc (.cells #[.int .u8 (j : Int), .int .u8 (of : Int)] 5)).alloc (.cells #[.slice (some ⟨wr.heap.size, 0, none⟩) 2 2, .slice A2 m2 m2] 23)) [Value.slice (some ⟨wr.heap.size, 0, none⟩) 2 2, Value.slice A2 m2 m2] [[(j : Int), (of : Int)], pl] :=
          ((RdL.nil _).snoc (A := some ⟨wr.heap.size, 0, none⟩) (n := 2) (c := 2) rfl (fun e => by cases e) (Nat.le_refl _) hr2 hI2).snoc HPL.out HCA.out (Nat.le_refl _) (HRP.out.kept hb0) hIp
        have hF : [[(j : Int), (of : Int)], pl].flatten = partL l (cnt l.length) j := by rw [← HP.out]; simp
        have hT : tot [[(j : Int), (of : Int)], pl] = 2 + m2 := by unfold tot; simp [HPL.out]; omega
        have hpn : (partL l (cnt l.length) j).length = 2 + m2 := by rw [← hF]; exact hT
        have HHB0 := Lib.hid hb0
        have HPN := Lib.hid hpn
        clear hb0 hpn hr2 hI2 hIp
        refine (C2.out _ _ _ _ rfl hv hL2 (by rw [hT]; omega)).mono ?_
        rintro e w2 ⟨v2, rfl, hown2, hb2⟩
        rw [hT, hF] at hown2
        obtain ⟨A3, c3, rfl, hnc3, hcm3, hrd3, hlen3⟩ := own_rd hown2
        have HB2 := Lib.hid (HHB0.out.trans (hb2.mono HHB0.out.size))
        have HR3 := Lib.hid hrd3
        clear hv hL2 hT hF hown2 hb2 hrd3 hlen3 hcm3
        go_wp2_with fail
        refine (C3.out A3 c3 (2 + m2) (partL l (cnt l.length) j) _ HPN.out HR3.out (by omega) (by rw [HLN.out, ← HOF.out]; exact HPB.out)).mono ?_
        rintro e w3 ⟨g, rfl, hgg, hh, hb3⟩
        have HB3 := Lib.hid (HB2.out.trans (hb3.mono HB2.out.size))
        have HO3 := Lib.hid (own_kept HO.out HB3.out)
        have hwr := HB0.out.size
        have hw2 := HB2.out.size
        have HS3 : Hid (Secs w.heap.size w3 (gs ++ [g]) ((recL s l).take (j + 1))) := by
          rw [HTK.out]; exact (HS.out.kept HB3.out).snoc (by omega) (fun k hk => by have := (HS.out.lt k hk).2; omega) hh
        have HBw3 := Lib.hid (HB0.out.trans (HB3.out.mono HB0.out.size))
        clear hb3 hh hnc3
        go_wp2_with (at_builtin; go_must (refine wpList_append_rd rfl _ _ 25 rfl w.heap.size 23 (.slice none 0 0) 1 24 Try.underlying25 infoSl rfl (by decide) _ j (gs.map secV) rfl (HO3.out.alloc _) _ 1 1 [Value.slice (some ⟨g, 0, none⟩) 512 512] rfl (by simp) (by simp) (rd_new1 _ _ _) (by simp [Value.oneCell']) (by unfold maxLen; omega) (by omega) (HBw3.out.alloc HBw3.out.size _).size ?_))
        intro v8 w8 hown8 hg8
        have hb8 := below_app (HBw3.out.alloc HBw3.out.size _) (HBw3.out.alloc HBw3.out.size _).size (HO3.out.alloc _) hg8
        have HB8 := Lib.hid hb8
        have HS8 := Lib.hid ((HS3.out.kept ((Below.refl _ w3).alloc (Nat.le_refl _) _)).grown (HO3.out.alloc _) hg8)
        obtain ⟨A8, c8, rfl, hc8⟩ := own_sh hown8
        have HO8 : Hid (w8.ownsRow w.heap.size 23 1 (.slice A8 (j + 1) c8) (j + 1) ((gs ++ [g]).map secV)) := by
          rw [List.map_append]; exact hown8
        clear hown8 hg8 hb8 hc8
        go_wp2
        go_roundw
        case rel => exact ⟨j + 1, A8, c8, gs ++ [g], by omega, by go_num, rfl, HO8.out, HS8.out, HB8.out⟩
        case measure => simp [intOf]; omega
    · obtain rfl : j = of := by omega
      have hfull : (recL s l).take j = recL s l := List.take_of_length_le (by have := HOF.out; rw [recL_length, HLN.out]; omega)
      rw [hfull] at hS
      have HO := Lib.hid hown
      have HS := Lib.hid hS
      clear hown hS hfull
      go_wp2
      go_ret2
      exact ⟨_, gs, rfl, HO.out, HS.out, hb⟩
end Go.Proofs.Ytdgciajdnmgcnaa
