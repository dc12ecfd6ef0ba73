/- A part of the proof. -/
import Derived.Test.YtaffgndickdbiaaGreatDoorV01
import Derived.Lib.ItoaNum
import Derived.Lib.TrimByte
set_option linter.unusedVariables false
set_option linter.unusedSimpArgs false
namespace Go.Creel
open Go.RowKit
def F4q (N i : Nat) : UInt8 := UInt8.ofNat (48 + N / 10 ^ (8 - i) % 10)
def A1j (N k : Nat) : List UInt8 := (List.range k).map (F4q N)
theorem A2g (N k : Nat) : (A1j N k).length = k := by simp [A1j]
theorem C9j (N k : Nat) : A1j N (k + 1) = A1j N k ++ [F4q N k] := by simp [A1j,List.range_succ]
theorem B3p (N : Nat) {k j : Nat} (h : j < k) : (A1j N k)[j]? = some (F4q N j) := by simp [A1j,h]
theorem B4k : ∀ (k u : Nat),u < 10 ^ (k + 1) → Lib.nDigits u ≤ k + 1
 | 0,u,h=>by rw [Lib.nDigits_small (by simpa using h)];omega
 | k+1,u,h=>by
   by_cases h1:u<10
   ·rw [Lib.nDigits_small h1];omega
   ·rw [Lib.nDigits_big h1];have:=B4k k (u / 10) (by rw [Nat.pow_succ] at h;omega);omega
theorem F9f (x : Nat) (h : x < 10) : (UInt8.ofNat (48 + x)).toNat = 48 + x := by simp; omega
theorem D2d (N i : Nat) : (F4q N i).toNat = 48 + N / 10 ^ (8 - i) % 10 := F9f _ (Nat.mod_lt _ (by decide))
theorem pad9 {N : Nat} (h : N < 10 ^ 9) : List.replicate (9 - (Lib.decDigits N).length) 48 ++ Lib.decDigits N = A1j N 9 := by
 have hd:=B4k 8 N h;have hl:=Lib.lt_pow_nDigits N;rw [Lib.decDigits_length];apply List.ext_getElem
 ·simp [A2g,Lib.decDigits_length];omega
 ·intro i h1 h2;have hi:i<9:=by rw [A2g] at h2;exact h2
  have eR:(A1j N 9)[i]'h2=F4q N i:=by simp [A1j]
  refine Eq.trans ?_ eR.symm;by_cases hlt:i<9-Lib.nDigits N
  ·rw [List.getElem_append_left (by simpa using hlt),List.getElem_replicate];have:N / 10 ^ (8-i)=0:=Nat.div_eq_of_lt (Nat.lt_of_lt_of_le hl (Nat.pow_le_pow_right (by decide) (by omega)));unfold F4q;rw [this];rfl
  ·rw [List.getElem_append_right (by simpa using Nat.le_of_not_lt hlt)];simp only [List.length_replicate];have e:Lib.decDigits N=(List.range (Lib.nDigits N)).map fun t=>Lib.dg N (Lib.nDigits N-1-t):=Lib.decDigits_eq N
   simp only [e,List.getElem_map,List.getElem_range];have:Lib.nDigits N-1-(i-(9-Lib.nDigits N))=8-i:=by omega
   rw [this];rfl
theorem trim9 {N k : Nat} (hk : k ≤ 9) (h0 : N % 10 ^ (9 - k) = 0) (h1 : k = 0 ∨ N % 10 ^ (10 - k) ≠ 0) : Lib.trimRightB (A1j N 9) 48 = A1j N k := by
 have e:A1j N k=(A1j N 9).take k:=by
  apply List.ext_getElem?;intro i;rw [List.getElem?_take];by_cases hi:i<k
  ·rw [if_pos hi,B3p N hi,B3p N (by omega)]
  ·rw [if_neg hi,List.getElem?_eq_none (by rw [A2g];omega)]
 rw [e];apply Lib.trimRightB_take
 ·rw [A2g];exact hk
 ·intro j b hj hb;by_cases hj9:j<9
  ·rw [B3p N hj9] at hb;cases hb
   have hdv:10 ^ (9-k) ∣ N:=Nat.dvd_of_mod_eq_zero h0;obtain ⟨q,rfl⟩:=hdv;have e1:9-k=(8-j)+((j-k)+1):=by omega
   have:10 ^ (9-k)*q / 10 ^ (8-j) % 10=0:=by
    rw [e1,Nat.pow_add,Nat.mul_assoc,Nat.mul_div_cancel_left _ (Nat.pos_of_ne_zero (by simp)),Nat.pow_succ,Nat.mul_comm (10 ^ (j-k)) 10,Nat.mul_assoc,Nat.mul_mod_right]
   unfold F4q;rw [this];rfl
  ·rw [List.getElem?_eq_none (by rw [A2g];omega)] at hb;cases hb
 ·intro b hpos hb;rw [B3p N (by omega)] at hb;cases hb
  intro e2;have e3:=D2d N (k-1);rw [e2] at e3;have e4:8-(k-1)=9-k:=by omega
  rw [e4] at e3;have e5:N / 10 ^ (9-k) % 10=0:=by
   have:(48:UInt8).toNat=48:=rfl;omega
  rcases h1 with h1|h1
  ·omega
  ·apply h1;have e6:10-k=(9-k)+1:=by omega
   rw [e6,Nat.pow_succ,Nat.mod_mul,h0,e5];rfl
theorem C7z (N k : Nat) (hk : k < 9) : N % 10 ^ (9 - k) / 10 ^ (8 - k) = N / 10 ^ (8 - k) % 10 := by
 have:9-k=(8-k)+1:=by omega
 rw [this,Nat.pow_succ,Nat.mod_mul_right_div_self]
theorem D0n (N k : Nat) (hk : k < 9) : N % 10 ^ (9 - k) % 10 ^ (8 - k) = N % 10 ^ (9 - (k + 1)) := by
 have h1:9-k=(8-k)+1:=by omega
 have h2:9-(k+1)=8-k:=by omega
 rw [h2];exact Nat.mod_mod_of_dvd N (by rw [h1,Nat.pow_succ];exact Nat.dvd_mul_right _ _)
def A9n (s n : Int) : Int := if s < 0 then (if 0 < n then -s - 1 else -s) else s
def A3m (s n : Int) : Int := if s < 0 ∧ 0 < n then 1000000000 - n else n
def A9z (s : Int) : ByteArray := if s < 0 then ofL [45] else ByteArray.empty
def B6c (s n : Int) : ByteArray := A9z s ++ ofL (Lib.itoa (A9n s n))
def A3c (s n : Int) : ByteArray × Int :=
 if ¬ A3d s n=0 then (ByteArray.empty,A3d s n)
 else if A3m s n=0 then (B6c s n,0) else (B6c s n++ofL [46]++ofL (Lib.trimRightB (A1j (A3m s n).toNat 9) 48),0)
theorem A6r {s n : Int} (h : A3d s n = 0) : -1099511627776 ≤ s ∧ s ≤ 1099511627776 ∧ 0 ≤ n ∧ n ≤ 999999999 := by
 unfold A3d at h;split at h
 ·cases h
 ·omega
theorem A9v {n : Int} (h0 : 0 ≤ n) (h1 : n ≤ 1099511627776) : (Lib.itoa n).length ≤ 13 := by
 unfold Lib.itoa;rw [if_neg (by omega),Lib.decDigits_length]
 exact B4k 12 _ (by have:(10:Nat) ^ 13=10000000000000:=by decide
                    omega)
end Go.Creel
