/- The kernel's check of the primes from 1709 to 1999: the shapes of all their curves (plain; printed by gen_shpd.py). -/
import Derived.KernelRfl
import Derived.Test.YtofjmnodfabohaaGreatDoorK2
namespace Go.Proofs.YtofjmnodfabohaaGreatDoor
namespace SH
theorem sp1709 : schk 1709 3 427 390 854 4 64 = true := by kernel_rfl
theorem sp1721 : schk 1721 3 215 232 860 8 256 = true := by kernel_rfl
theorem sp1723 : schk 1723 3 861 1722 1723 2 16 = true := by kernel_rfl
theorem sp1733 : schk 1733 2 433 1323 866 4 64 = true := by kernel_rfl
theorem sp1741 : schk 1741 2 435 59 870 4 64 = true := by kernel_rfl
theorem sp1747 : schk 1747 2 873 1746 1747 2 16 = true := by kernel_rfl
theorem sp1753 : schk 1753 7 219 489 876 8 256 = true := by kernel_rfl
theorem sp1759 : schk 1759 6 879 1758 1759 2 16 = true := by kernel_rfl
theorem sp1777 : schk 1777 5 111 912 888 16 1024 = true := by kernel_rfl
theorem sp1783 : schk 1783 10 891 1782 1783 2 16 = true := by kernel_rfl
theorem sp1787 : schk 1787 2 893 1786 1787 2 16 = true := by kernel_rfl
theorem sp1789 : schk 1789 6 447 1065 894 4 64 = true := by kernel_rfl
theorem sp1801 : schk 1801 11 225 524 900 8 256 = true := by kernel_rfl
theorem sp1811 : schk 1811 6 905 1810 1811 2 16 = true := by kernel_rfl
theorem sp1823 : schk 1823 5 911 1822 1823 2 16 = true := by kernel_rfl
theorem sp1831 : schk 1831 3 915 1830 1831 2 16 = true := by kernel_rfl
theorem sp1847 : schk 1847 5 923 1846 1847 2 16 = true := by kernel_rfl
theorem sp1861 : schk 1861 2 465 61 930 4 64 = true := by kernel_rfl
theorem sp1867 : schk 1867 2 933 1866 1867 2 16 = true := by kernel_rfl
theorem sp1871 : schk 1871 14 935 1870 1871 2 16 = true := by kernel_rfl
theorem sp1873 : schk 1873 10 117 1093 936 16 1024 = true := by kernel_rfl
theorem sp1877 : schk 1877 2 469 137 938 4 64 = true := by kernel_rfl
theorem sp1879 : schk 1879 6 939 1878 1879 2 16 = true := by kernel_rfl
theorem sp1889 : schk 1889 3 59 1456 944 32 4096 = true := by kernel_rfl
theorem sp1901 : schk 1901 2 475 1683 950 4 64 = true := by kernel_rfl
theorem sp1907 : schk 1907 2 953 1906 1907 2 16 = true := by kernel_rfl
theorem sp1913 : schk 1913 3 239 922 956 8 256 = true := by kernel_rfl
theorem sp1931 : schk 1931 2 965 1930 1931 2 16 = true := by kernel_rfl
theorem sp1933 : schk 1933 5 483 1335 966 4 64 = true := by kernel_rfl
theorem sp1949 : schk 1949 2 487 589 974 4 64 = true := by kernel_rfl
theorem sp1951 : schk 1951 3 975 1950 1951 2 16 = true := by kernel_rfl
theorem sp1973 : schk 1973 2 493 259 986 4 64 = true := by kernel_rfl
theorem sp1979 : schk 1979 2 989 1978 1979 2 16 = true := by kernel_rfl
theorem sp1987 : schk 1987 2 993 1986 1987 2 16 = true := by kernel_rfl
theorem sp1993 : schk 1993 5 249 960 996 8 256 = true := by kernel_rfl
theorem sp1997 : schk 1997 2 499 1585 998 4 64 = true := by kernel_rfl
theorem sp1999 : schk 1999 3 999 1998 1999 2 16 = true := by kernel_rfl
end SH
end Go.Proofs.YtofjmnodfabohaaGreatDoor
