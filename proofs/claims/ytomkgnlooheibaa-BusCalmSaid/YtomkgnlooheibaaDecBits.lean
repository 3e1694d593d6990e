/- A frame's bits are read as that frame. Plain. -/
import Derived.Test.YtomkgnlooheibaaDecLaw
namespace Go.Bus.decK
open Go.RowKit Go.Bus.bitK Go.Bus.crcLaw Go.Bus.numK
set_option linter.unusedVariables false
theorem nb_at {p r : List Bool} {v : Int} {a n : Nat} (hp : p.length = a) (h0 : 0 ≤ v) (h1 : v < 2 ^ n) : (nb (p ++ (msb v n ++ r)) a n : Int) = v := by
  unfold nb seg
  rw [List.drop_left' hp, List.take_left' (msb_length v n)]
  exact num_of h0 h1
theorem bytes_at {p r : List Bool} {a : Nat} (hp : p.length = a) (l : List Int) (hb : ∀ x ∈ l, 0 ≤ x ∧ x < 256) : bytesF (p ++ (dataF l ++ r)) a l.length = l := by
  apply List.ext_getElem
  · simp [bytesF]
  intro i h1 h2
  have hg : (bytesF (p ++ (dataF l ++ r)) a l.length)[i] = (nb (p ++ (dataF l ++ r)) (a + 8 * i) 8 : Int) := by simp [bytesF]
  rw [hg]
  have hx := hb l[i] (List.getElem_mem h2)
  have hsp : l = l.take i ++ (l[i] :: l.drop (i + 1)) := by rw [List.getElem_cons_drop, List.take_append_drop]
  have h3 : dataF l = dataF (l.take i) ++ (msb l[i] 8 ++ dataF (l.drop (i + 1))) := (congrArg dataF hsp).trans (by unfold dataF; rw [List.flatMap_append, List.flatMap_cons])
  have h4 : p ++ (dataF l ++ r) = (p ++ dataF (l.take i)) ++ (msb l[i] 8 ++ (dataF (l.drop (i + 1)) ++ r)) := by rw [h3]; simp only [List.append_assoc]
  rw [h4]
  exact nb_at (by rw [List.length_append, hp, dataF_length, List.length_take]; omega) hx.1 (by simpa using hx.2)
theorem tail_bits {p : List Bool} {a : Nat} (hp : p.length = a) (id : Int) (wide : Bool) (l : List Int) (h8 : l.length ≤ 8) (hb : ∀ x ∈ l, 0 ≤ x ∧ x < 256) :
    tailF (p ++ (msb l.length 4 ++ (dataF l ++ msb (crcS (p ++ msb l.length 4 ++ dataF l)) 15))) id wide a = .ok (id, wide, l) := by
  generalize hc : crcS (p ++ msb l.length 4 ++ dataF l) = c
  have hcb := crcS_bd (p ++ msb l.length 4 ++ dataF l)
  rw [hc] at hcb
  have f0 : (nb (p ++ (msb l.length 4 ++ (dataF l ++ msb c 15))) a 4 : Int) = l.length := nb_at hp (by omega) (by simp; omega)
  have f1 : nb (p ++ (msb l.length 4 ++ (dataF l ++ msb c 15))) a 4 = l.length := by omega
  have hl : (p ++ (msb l.length 4 ++ (dataF l ++ msb c 15))).length = a + 4 + 8 * l.length + 15 := by
    simp only [List.length_append, msb_length, dataF_length, hp]; omega
  have ht : (p ++ (msb l.length 4 ++ (dataF l ++ msb c 15))).take (a + 4 + 8 * l.length) = p ++ msb l.length 4 ++ dataF l := by
    rw [← List.append_assoc, ← List.append_assoc]
    exact List.take_left' (by simp only [List.length_append, msb_length, dataF_length, hp])
  have f2 : (nb (p ++ (msb l.length 4 ++ (dataF l ++ msb c 15))) (a + 4 + 8 * l.length) 15 : Int) = c := by
    rw [← List.append_assoc, ← List.append_assoc, ← List.append_nil (msb c 15)]
    exact nb_at (by simp only [List.length_append, msb_length, dataF_length, hp]) hcb.1 hcb.2
  have f3 : bytesF (p ++ (msb l.length 4 ++ (dataF l ++ msb c 15))) (a + 4) l.length = l := by
    rw [← List.append_assoc]
    exact bytes_at (by simp only [List.length_append, msb_length, hp]) l hb
  unfold tailF
  rw [f1, hl, if_neg (by omega), if_neg (by omega), if_neg (by omega), f2, ht, hc, if_neg (by simp), f3]
theorem dec_bits (id : Int) (wide : Bool) (l : List Int) (h8 : l.length ≤ 8) (hb : ∀ x ∈ l, 0 ≤ x ∧ x < 256) (h0 : 0 ≤ id) (h1 : id < (if wide = true then 536870912 else 2048)) :
    decF (bitsF id wide l) = .ok (id, wide, l) := by
  have hlen := bitsF_length id wide l
  have z0 : [false] = msb 0 1 := by decide
  have z3 : msb 0 3 = msb 0 1 ++ (msb 0 1 ++ msb 0 1) := by decide
  have z2 : msb 3 2 = msb 1 1 ++ msb 1 1 := by decide
  cases wide
  · simp only [Bool.false_eq_true, if_false] at h1 hlen
    have e : bitsF id false l = msb 0 1 ++ (msb id 11 ++ (msb 0 1 ++ (msb 0 1 ++ (msb 0 1 ++ (msb l.length 4 ++ (dataF l ++ msb (crcS (preF id false l)) 15)))))) := by
      unfold bitsF
      conv => lhs; arg 1; unfold preF headF
      simp only [Bool.false_eq_true, if_false, z3, z0, List.append_assoc]
    have g0 : (nb (bitsF id false l) 0 1 : Int) = 0 := by rw [e]; exact nb_at (p := []) rfl (by omega) (by decide)
    have g1 : (nb (bitsF id false l) 1 11 : Int) = id := by rw [e]; exact nb_at (by simp [msb_length]) h0 (by simpa using h1)
    have g12 : (nb (bitsF id false l) 12 1 : Int) = 0 := by rw [e, ← List.append_assoc]; exact nb_at (by simp [msb_length]) (by omega) (by decide)
    have g13 : (nb (bitsF id false l) 13 1 : Int) = 0 := by rw [e, ← List.append_assoc, ← List.append_assoc]; exact nb_at (by simp [msb_length]) (by omega) (by decide)
    have g14 : (nb (bitsF id false l) 14 1 : Int) = 0 := by rw [e, ← List.append_assoc, ← List.append_assoc, ← List.append_assoc]; exact nb_at (by simp [msb_length]) (by omega) (by decide)
    unfold decF
    rw [if_neg (by omega), if_neg (by omega), if_pos (by omega), if_neg (by omega), if_neg (by omega), g1]
    have := tail_bits (p := [false] ++ headF id false) (a := 15) (by simp [headF_length]) id false l h8 hb
    have e2 : bitsF id false l = [false] ++ headF id false ++ (msb l.length 4 ++ (dataF l ++ msb (crcS ([false] ++ headF id false ++ msb l.length 4 ++ dataF l)) 15)) := by
      unfold bitsF preF
      simp only [List.append_assoc]
    rw [← e2] at this
    exact this
  · simp only [if_true] at h1 hlen
    have e : bitsF id true l = msb 0 1 ++ (msb (id / 262144) 11 ++ (msb 1 1 ++ (msb 1 1 ++ (msb id 18 ++ (msb 0 3 ++ (msb l.length 4 ++ (dataF l ++ msb (crcS (preF id true l)) 15))))))) := by
      unfold bitsF
      conv => lhs; arg 1; unfold preF headF
      simp only [if_true, z2, z0, List.append_assoc]
    have e18 : msb id 18 = msb (id % 262144) 18 := by
      obtain ⟨x, rfl⟩ := Int.eq_ofNat_of_zero_le h0
      have h := num_msb x 18
      have h2 := bit_num (msb (x : Int) 18)
      rw [msb_length, h] at h2
      rw [← h2]
      congr 1
    have g0 : (nb (bitsF id true l) 0 1 : Int) = 0 := by rw [e]; exact nb_at (p := []) rfl (by omega) (by decide)
    have g1 : (nb (bitsF id true l) 1 11 : Int) = id / 262144 := by rw [e]; exact nb_at (by simp [msb_length]) (by omega) (by simp; omega)
    have g12 : (nb (bitsF id true l) 12 1 : Int) = 1 := by rw [e, ← List.append_assoc]; exact nb_at (by simp [msb_length]) (by omega) (by decide)
    have g13 : (nb (bitsF id true l) 13 1 : Int) = 1 := by rw [e, ← List.append_assoc, ← List.append_assoc]; exact nb_at (by simp [msb_length]) (by omega) (by decide)
    have g14 : (nb (bitsF id true l) 14 18 : Int) = id % 262144 := by rw [e, e18, ← List.append_assoc, ← List.append_assoc, ← List.append_assoc]; exact nb_at (by simp [msb_length]) (by omega) (by simp; omega)
    have g32 : (nb (bitsF id true l) 32 3 : Int) = 0 := by rw [e, ← List.append_assoc, ← List.append_assoc, ← List.append_assoc, ← List.append_assoc]; exact nb_at (by simp [msb_length]) (by omega) (by decide)
    unfold decF
    have gi : ((nb (bitsF id true l) 1 11 * 262144 + nb (bitsF id true l) 14 18 : Nat) : Int) = id := by omega
    rw [if_neg (by omega), if_neg (by omega), if_neg (by omega), if_neg (by omega), if_neg (by omega), gi]
    have := tail_bits (p := [false] ++ headF id true) (a := 35) (by simp [headF_length]) id true l h8 hb
    have e2 : bitsF id true l = [false] ++ headF id true ++ (msb l.length 4 ++ (dataF l ++ msb (crcS ([false] ++ headF id true ++ msb l.length 4 ++ dataF l)) 15)) := by
      unfold bitsF preF
      simp only [List.append_assoc]
    rw [← e2] at this
    exact this
end Go.Bus.decK
