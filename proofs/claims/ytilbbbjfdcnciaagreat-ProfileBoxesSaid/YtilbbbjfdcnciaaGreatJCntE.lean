/-
  The numbers of parts, holes and corners of a square with a hole: the closed runs.
-/
import Derived.Test.YtilbbbjfdcnciaaGreatJCntD
import Derived.KernelRfl
namespace Go.Va

theorem cE0 : exec tabM 100 (cp 0) cT0 cH0 = some (.norm, cT1, cH1) := by kernel_rfl
theorem cE1 : exec tabM 100 (cp 1) cT1 cH1 = some (.norm, cT2, cH2) := by kernel_rfl
theorem cE2 : exec tabM 100 (cp 2) cT2 cH2 = some (.norm, cT3, cH3) := by kernel_rfl
theorem cE3 : exec tabM 100 (cp 3) cT3 cH3 = some (.norm, cT4, cH4) := by kernel_rfl
theorem cE4 : exec tabM 100 (cp 4) cT4 cH4 = some (.norm, cT5, cH5) := by kernel_rfl
theorem cE5 : exec tabM 100 (cp 5) cT5 cH5 = some (.norm, cT6, cH6) := by kernel_rfl
theorem cE6 : exec tabM 100 (cp 6) cT6 cH6 = some (.norm, cT7, cH7) := by kernel_rfl
theorem cE7 : exec tabM 100 (cp 7) cT7 cH7 = some (.norm, cT8, cH8) := by kernel_rfl

def cT9 : T := [(1, .ptr 0 0 0), (2, .int .i64 1), (4, .int .i64 8), (16, .int .i64 2)]
def cT10 : T := [(2, .int .i64 1), (3, .int .i64 1), (4, .int .i64 8), (5, .int .i64 0)]
theorem cE9 : exec tabM 100 (cp 9) (cTL 2) cHL = some (.norm, cT9, { cHL with cnt := 30 }) := by kernel_rfl
theorem cE10 : exec tabM 100 (cp 10) cT9 { cHL with cnt := 30 } = some (.norm, cT10, { cHL with cnt := 44 }) := by kernel_rfl

theorem cK00 : exec tabM 100 cKey (cTE 0 0 0) (cHE 0 0) = some (.norm, cTL 1, { cHE 0 0 with cnt := 36 }) := by kernel_rfl
theorem cK01 : exec tabM 100 cKey (cTE 0 0 1) (cHE 0 0) = some (.norm, cTL 2, { cHE 0 0 with cnt := 36 }) := by kernel_rfl
theorem cK02 : exec tabM 100 cKey (cTE 0 0 2) (cHE 0 0) = some (.norm, cTL 3, { cHE 0 0 with cnt := 36 }) := by kernel_rfl
theorem cK10 : exec tabM 100 cKey (cTE 4 0 0) (cHE 4 0) = some (.norm, cTL 0, { cHE 4 0 with cnt := 36 }) := by kernel_rfl
theorem cK11 : exec tabM 100 cKey (cTE 4 0 1) (cHE 4 0) = some (.norm, cTL 1, { cHE 4 0 with cnt := 36 }) := by kernel_rfl
theorem cK12 : exec tabM 100 cKey (cTE 4 0 2) (cHE 4 0) = some (.norm, cTL 2, { cHE 4 0 with cnt := 36 }) := by kernel_rfl
theorem cK20 : exec tabM 100 cKey (cTE 4 4 0) (cHE 4 4) = some (.norm, cTL 0, { cHE 4 4 with cnt := 36 }) := by kernel_rfl
theorem cK21 : exec tabM 100 cKey (cTE 4 4 1) (cHE 4 4) = some (.norm, cTL 1, { cHE 4 4 with cnt := 36 }) := by kernel_rfl
theorem cK22 : exec tabM 100 cKey (cTE 4 4 2) (cHE 4 4) = some (.norm, cTL 2, { cHE 4 4 with cnt := 36 }) := by kernel_rfl
theorem cK30 : exec tabM 100 cKey (cTE 0 4 0) (cHE 0 4) = some (.norm, cTL 0, { cHE 0 4 with cnt := 36 }) := by kernel_rfl
theorem cK31 : exec tabM 100 cKey (cTE 0 4 1) (cHE 0 4) = some (.norm, cTL 1, { cHE 0 4 with cnt := 36 }) := by kernel_rfl
theorem cK32 : exec tabM 100 cKey (cTE 0 4 2) (cHE 0 4) = some (.norm, cTL 2, { cHE 0 4 with cnt := 36 }) := by kernel_rfl
theorem cK40 : exec tabM 100 cKey (cTE 1 1 0) (cHE 1 1) = some (.norm, cTL 1, { cHE 1 1 with cnt := 36 }) := by kernel_rfl
theorem cK41 : exec tabM 100 cKey (cTE 1 1 1) (cHE 1 1) = some (.norm, cTL 2, { cHE 1 1 with cnt := 36 }) := by kernel_rfl
theorem cK42 : exec tabM 100 cKey (cTE 1 1 2) (cHE 1 1) = some (.norm, cTL 3, { cHE 1 1 with cnt := 36 }) := by kernel_rfl
theorem cK50 : exec tabM 100 cKey (cTE 1 3 0) (cHE 1 3) = some (.norm, cTL 0, { cHE 1 3 with cnt := 36 }) := by kernel_rfl
theorem cK51 : exec tabM 100 cKey (cTE 1 3 1) (cHE 1 3) = some (.norm, cTL 1, { cHE 1 3 with cnt := 36 }) := by kernel_rfl
theorem cK52 : exec tabM 100 cKey (cTE 1 3 2) (cHE 1 3) = some (.norm, cTL 2, { cHE 1 3 with cnt := 36 }) := by kernel_rfl
theorem cK60 : exec tabM 100 cKey (cTE 3 3 0) (cHE 3 3) = some (.norm, cTL 0, { cHE 3 3 with cnt := 36 }) := by kernel_rfl
theorem cK61 : exec tabM 100 cKey (cTE 3 3 1) (cHE 3 3) = some (.norm, cTL 1, { cHE 3 3 with cnt := 36 }) := by kernel_rfl
theorem cK62 : exec tabM 100 cKey (cTE 3 3 2) (cHE 3 3) = some (.norm, cTL 2, { cHE 3 3 with cnt := 36 }) := by kernel_rfl
theorem cK70 : exec tabM 100 cKey (cTE 3 1 0) (cHE 3 1) = some (.norm, cTL 0, { cHE 3 1 with cnt := 36 }) := by kernel_rfl
theorem cK71 : exec tabM 100 cKey (cTE 3 1 1) (cHE 3 1) = some (.norm, cTL 1, { cHE 3 1 with cnt := 36 }) := by kernel_rfl
theorem cK72 : exec tabM 100 cKey (cTE 3 1 2) (cHE 3 1) = some (.norm, cTL 2, { cHE 3 1 with cnt := 36 }) := by kernel_rfl

def cOf (i : Nat) : Int := if i = 0 ∨ i = 4 then 1 else 0

theorem keyRun {ks vs : List AV} (hg : cHL.objs.get 14 = some (.map ks vs)) (i : Nat) (hi : i < 8) : ∃ x y, ks[i]? = some (.agg [.int .i64 x, .int .i64 y]) ∧
    ∀ s : Int, s = 0 ∨ s = 1 ∨ s = 2 → exec tabM 100 cKey (cTE x y s) (cHE x y) = some (.norm, cTL (s + cOf i), { cHE x y with cnt := 36 }) := by
  have e : ks = [.agg [.int .i64 0, .int .i64 0], .agg [.int .i64 4, .int .i64 0], .agg [.int .i64 4, .int .i64 4], .agg [.int .i64 0, .int .i64 4], .agg [.int .i64 1, .int .i64 1], .agg [.int .i64 1, .int .i64 3], .agg [.int .i64 3, .int .i64 3], .agg [.int .i64 3, .int .i64 1]] := by
    have : cHL.objs.get 14 = some (.map [.agg [.int .i64 0, .int .i64 0], .agg [.int .i64 4, .int .i64 0], .agg [.int .i64 4, .int .i64 4], .agg [.int .i64 0, .int .i64 4], .agg [.int .i64 1, .int .i64 1], .agg [.int .i64 1, .int .i64 3], .agg [.int .i64 3, .int .i64 3], .agg [.int .i64 3, .int .i64 1]] _) := rfl
    rw [this] at hg
    simp only [Option.some.injEq, Obj.map.injEq] at hg
    exact hg.1.symm
  subst e
  match i, hi with
  | 0, _ => exact ⟨0, 0, rfl, fun s hs => by
    rcases hs with rfl | rfl | rfl
    · exact cK00
    · exact cK01
    · exact cK02⟩
  | 1, _ => exact ⟨4, 0, rfl, fun s hs => by
    rcases hs with rfl | rfl | rfl
    · exact cK10
    · exact cK11
    · exact cK12⟩
  | 2, _ => exact ⟨4, 4, rfl, fun s hs => by
    rcases hs with rfl | rfl | rfl
    · exact cK20
    · exact cK21
    · exact cK22⟩
  | 3, _ => exact ⟨0, 4, rfl, fun s hs => by
    rcases hs with rfl | rfl | rfl
    · exact cK30
    · exact cK31
    · exact cK32⟩
  | 4, _ => exact ⟨1, 1, rfl, fun s hs => by
    rcases hs with rfl | rfl | rfl
    · exact cK40
    · exact cK41
    · exact cK42⟩
  | 5, _ => exact ⟨1, 3, rfl, fun s hs => by
    rcases hs with rfl | rfl | rfl
    · exact cK50
    · exact cK51
    · exact cK52⟩
  | 6, _ => exact ⟨3, 3, rfl, fun s hs => by
    rcases hs with rfl | rfl | rfl
    · exact cK60
    · exact cK61
    · exact cK62⟩
  | 7, _ => exact ⟨3, 1, rfl, fun s hs => by
    rcases hs with rfl | rfl | rfl
    · exact cK70
    · exact cK71
    · exact cK72⟩
  | n + 8, h => exact absurd h (by omega)

end Go.Va
